/- Jobs that come, walked. -/
import Derived.Test.YtcnfdohlgmipoaaTChk
set_option linter.all false
namespace Go.Proofs.Ytcnfdohlgmipoaa
open Go Go.Abs

def badF (n : Int) : Bool := decide (n < 0) || decide (10000 < n)
def firstsV (l : List Task) (first : List Int) : Int := if first.length = l.length ∧ first.any badF = false then 0 else 4
theorem bad_not {n : Int} (h1 : 0 ≤ n) (h2 : n ≤ 10000) : badF n = false := by simp [badF]; omega
theorem bad_of {n : Int} (h : badF n = false) : 0 ≤ n ∧ n ≤ 10000 := by simp [badF] at h; omega
theorem anyB_take {l : List Int} {k : Nat} (hk : k < l.length) (h : (l.take k).any badF = false) (h2 : badF (l.getD k Dat.d0) = false) : (l.take (k + 1)).any badF = false := by
  rw [List.take_add_one, List.getElem?_eq_getElem hk, List.any_append, h]
  rw [List.getD_eq_getElem?_getD, List.getElem?_eq_getElem hk] at h2
  simpa using h2
theorem anyB_at {l : List Int} {k : Nat} (hk : k < l.length) (h2 : badF (l.getD k Dat.d0) = true) : l.any badF = true := by
  rw [List.getD_eq_getElem?_getD, List.getElem?_eq_getElem hk] at h2
  exact List.any_eq_true.2 ⟨_, List.getElem_mem hk, h2⟩
theorem anyB_get {l : List Int} (h : l.any badF = false) {k : Nat} (hk : k < l.length) : 0 ≤ l.getD k Dat.d0 ∧ l.getD k Dat.d0 ≤ 10000 := by
  rw [List.getD_eq_getElem?_getD, List.getElem?_eq_getElem hk]
  exact bad_of (by simpa using List.any_eq_false.1 h _ (List.getElem_mem hk))
structure FsX (l : List Int) where
  k : Nat
  hk : k ≤ l.length
  ha : (l.take k).any badF = false
noncomputable def cFs0 : FuncId → Con := fun f => match f with
  | 40 => inlCon E noCon noDraws [0, 2] Try.f40
  | _ => fun _ _ _ => Bad 1001
theorem cFs0_ok : ConOk Try.prog cFs0 := fun f A H K h => by
  unfold cFs0 at h
  split at h
  · exact ⟨⟨Try.f40, Try.func40, by kernel_rfl, by kernel_rfl⟩, inl_ok envOk zl noCon_ok noDraws_ok Try.func40 h⟩
  · cases h
noncomputable def cFs1 : FuncId → Con := fun f => match f with
  | 51 => inlCon E cFs0 noDraws [0, 1, 4, 5, 7, 8, 9, 16] Try.f51
  | _ => fun _ _ _ => Bad 1001
theorem cFs1_ok : ConOk Try.prog cFs1 := fun f A H K h => by
  unfold cFs1 at h
  split at h
  · exact ⟨⟨Try.f51, Try.func51, by kernel_rfl, by kernel_rfl⟩, inl_ok envOk zl cFs0_ok noDraws_ok Try.func51 h⟩
  · cases h
noncomputable def cFs2 : FuncId → Con := fun f => match f with
  | 39 => inlCon E cFs1 noDraws [0, 1, 4] Try.f39
  | _ => fun _ _ _ => Bad 1001
theorem cFs2_ok : ConOk Try.prog cFs2 := fun f A H K h => by
  unfold cFs2 at h
  split at h
  · exact ⟨⟨Try.f39, Try.func39, by kernel_rfl, by kernel_rfl⟩, inl_ok envOk zl cFs1_ok noDraws_ok Try.func39 h⟩
  · cases h
def firstsC_R (r : Th (Int)) : AV := .i .i64 fun _ => (r ())
def firstsC_P (l : (List Task)) (first : (List Int)) : Prop := first.length ≤ 9223372036854775807
def firstsC_D : Det := fun A => match A with
  | [l, first] => some (fun _ => Leaf.ok (List Task) l ∧ Leaf.ok (List Int) first ∧ firstsC_P (Leaf.val l) (Leaf.val first), firstsC_R fun _ => firstsV (Leaf.val l) (Leaf.val first))
  | _ => none
set_option maxRecDepth 100000 in
set_option maxHeartbeats 4000000 in
theorem firstsC_vc (l : (List Task)) (first : (List Int)) (hp : firstsC_P l first) : FnOk Try.prog 26 [Leaf.av fun _ => l, Leaf.av fun _ => first] [] (outA (firstsC_R fun _ => firstsV l first) []) := by
  refine fn_ok envOk zl cFs2_ok noDraws_ok (keep := [0, 1, 4, 13]) Try.func26 rfl ?_
  have hp' : first.length ≤ 9223372036854775807 := hp
  have fin : ∀ (e : Int) H kl, firstsV l first = e → outA (firstsC_R fun _ => firstsV l first) [] (.i .i64 fun _ => e) H kl := fun e H kl h => by
    rw [h]
    cbv
    repeat' first | (refine Stp.mk ?_; cbv) | (refine Gen.mk fun r hr => ?_; (try simp only [Dat.ok, Dat.dec, Leaf.ok, Leaf.val, Span.eta, Set.eta, Task.eta, Done.eta, job.eta, Late.eta, val_sl, val_nil] at hr); cbv) | exact trivial | rfl | refine Both.mk ?_ ?_ | (refine Imp.mk fun h => ?_; (try dsimp only at h); (try simp only [nc, Int.toNat_natCast, ne_eq, zz] at h); (try simp only [nc] at h)) | refine Ob.mk ?_ ?_ | refine Chk.mk (by kernel_rfl) ?_ | refine Eq'.mk ?_ | (refine AllN.mk fun i hi => ?_; cbv) | (refine AllC.mk fun c hc hcm => ?_; (try dsimp only at hc); cbv) | (refine AllS.mk fun r hr => ?_; (try simp only [Dat.ok, Dat.dec, Leaf.ok, Leaf.val, Span.eta, Set.eta, Task.eta, Done.eta, job.eta, Late.eta, val_sl] at hr); cbv)
  generalize outA (firstsC_R fun _ => firstsV l first) [] = K at fin ⊢
  cbv
  repeat' first | (show Stp _; exfalso; first | omega | (exact h ‹_›) | (exact absurd ‹_› h) | (exact Bool.false_ne_true (h.symm.trans (show _ = true by assumption)))) | (refine Stp.mk ?_; cbv) | (refine Gen.mk fun r hr => ?_; (try simp only [Dat.ok, Dat.dec, Leaf.ok, Leaf.val, Span.eta, Set.eta, Task.eta, Done.eta, job.eta, Late.eta, val_sl, val_nil] at hr); cbv) | exact trivial | rfl | refine Both.mk ?_ ?_ | (refine Imp.mk fun h => ?_; (try dsimp only at h); (try simp only [nc, Int.toNat_natCast, ne_eq, zz] at h); (try simp only [nc] at h)) | refine Ob.mk ?_ ?_ | refine Chk.mk (by kernel_rfl) ?_ | refine Eq'.mk ?_ | (refine AllN.mk fun i hi => ?_; cbv) | (refine AllC.mk fun c hc hcm => ?_; (try dsimp only at hc); cbv) | (refine AllS.mk fun r hr => ?_; (try simp only [Dat.ok, Dat.dec, Leaf.ok, Leaf.val, Span.eta, Set.eta, Task.eta, Done.eta, job.eta, Late.eta, val_sl] at hr); cbv)
  all_goals ((try dsimp only at *); (try simp only [nc, Int.toNat_natCast, ne_eq, zz] at *); (try simp only [nc] at *))
  all_goals first
    | (refine fin _ _ _ ?_
       rw [firstsV, if_neg (by omega)])
    | skip
  refine LoopVC.frame [4, 5, 8, 9, 16] (FsX first) (fun x => [(8, .i .i64 fun _ => x.k)]) (fun _ => []) [] (fun x => first.length - x.k) ⟨0, Nat.zero_le _, rfl⟩ rfl (fun _ => rfl) ?_ ?_ fun ⟨k, hk, ha⟩ => ?_
  iterate 2
    · cbv
      repeat' first | (refine Stp.mk ?_; cbv) | (refine Gen.mk fun r hr => ?_; (try simp only [Dat.ok, Dat.dec, Leaf.ok, Leaf.val, Span.eta, Set.eta, Task.eta, Done.eta, job.eta, Late.eta, val_sl, val_nil] at hr); cbv) | exact trivial | rfl | refine Both.mk ?_ ?_ | (refine Imp.mk fun h => ?_; (try dsimp only at h); (try simp only [nc, Int.toNat_natCast, ne_eq, zz] at h); (try simp only [nc] at h)) | refine Ob.mk ?_ ?_ | refine Chk.mk (by kernel_rfl) ?_ | refine Eq'.mk ?_ | (refine AllN.mk fun i hi => ?_; cbv) | (refine AllC.mk fun c hc hcm => ?_; (try dsimp only at hc); cbv) | (refine AllS.mk fun r hr => ?_; (try simp only [Dat.ok, Dat.dec, Leaf.ok, Leaf.val, Span.eta, Set.eta, Task.eta, Done.eta, job.eta, Late.eta, val_sl] at hr); cbv)
  · cbv
    repeat' first | (show Stp _; exfalso; first | omega | (exact h ‹_›) | (exact absurd ‹_› h) | (exact Bool.false_ne_true (h.symm.trans (show _ = true by assumption)))) | (refine Stp.mk ?_; cbv) | (refine Gen.mk fun r hr => ?_; (try simp only [Dat.ok, Dat.dec, Leaf.ok, Leaf.val, Span.eta, Set.eta, Task.eta, Done.eta, job.eta, Late.eta, val_sl, val_nil] at hr); cbv) | exact trivial | rfl | refine Both.mk ?_ ?_ | (refine Imp.mk fun h => ?_; (try dsimp only at h); (try simp only [nc, Int.toNat_natCast, ne_eq, zz] at h); (try simp only [nc] at h)) | refine Ob.mk ?_ ?_ | refine Chk.mk (by kernel_rfl) ?_ | refine Eq'.mk ?_ | (refine AllN.mk fun i hi => ?_; cbv) | (refine AllC.mk fun c hc hcm => ?_; (try dsimp only at hc); cbv) | (refine AllS.mk fun r hr => ?_; (try simp only [Dat.ok, Dat.dec, Leaf.ok, Leaf.val, Span.eta, Set.eta, Task.eta, Done.eta, job.eta, Late.eta, val_sl] at hr); cbv)
    all_goals ((try dsimp only at *); (try simp only [nc, Int.toNat_natCast, ne_eq, zz] at *); (try simp only [nc] at *))
    all_goals try rw [nc] at *
    all_goals first
      | omega
      | (unfold InR; omega)
      | (have hk2 : k < first.length := by omega
         have hw : badF (first.getD k Dat.d0) = true := by simp only [badF, Bool.or_eq_true, decide_eq_true_eq]; omega
         refine fin _ _ _ ?_
         rw [firstsV, if_neg (by rw [anyB_at hk2 hw]; simp)])
      | (have hk2 : k < first.length := by omega
         refine ⟨⟨k + 1, by omega, anyB_take hk2 ha (bad_not (by omega) (by omega))⟩, ?_, ?_, rfl, by (try dsimp only); omega⟩
         · cbv
           repeat' first | (refine Stp.mk ?_; cbv) | (refine Gen.mk fun r hr => ?_; (try simp only [Dat.ok, Dat.dec, Leaf.ok, Leaf.val, Span.eta, Set.eta, Task.eta, Done.eta, job.eta, Late.eta, val_sl, val_nil] at hr); cbv) | exact trivial | rfl | refine Both.mk ?_ ?_ | (refine Imp.mk fun h => ?_; (try dsimp only at h); (try simp only [nc, Int.toNat_natCast, ne_eq, zz] at h); (try simp only [nc] at h)) | refine Ob.mk ?_ ?_ | refine Chk.mk (by kernel_rfl) ?_ | refine Eq'.mk ?_ | (refine AllN.mk fun i hi => ?_; cbv) | (refine AllC.mk fun c hc hcm => ?_; (try dsimp only at hc); cbv) | (refine AllS.mk fun r hr => ?_; (try simp only [Dat.ok, Dat.dec, Leaf.ok, Leaf.val, Span.eta, Set.eta, Task.eta, Done.eta, job.eta, Late.eta, val_sl] at hr); cbv)
         · cbv
           repeat' first | (refine Stp.mk ?_; cbv) | (refine Gen.mk fun r hr => ?_; (try simp only [Dat.ok, Dat.dec, Leaf.ok, Leaf.val, Span.eta, Set.eta, Task.eta, Done.eta, job.eta, Late.eta, val_sl, val_nil] at hr); cbv) | exact trivial | rfl | refine Both.mk ?_ ?_ | (refine Imp.mk fun h => ?_; (try dsimp only at h); (try simp only [nc, Int.toNat_natCast, ne_eq, zz] at h); (try simp only [nc] at h)) | refine Ob.mk ?_ ?_ | refine Chk.mk (by kernel_rfl) ?_ | refine Eq'.mk ?_ | (refine AllN.mk fun i hi => ?_; cbv) | (refine AllC.mk fun c hc hcm => ?_; (try dsimp only at hc); cbv) | (refine AllS.mk fun r hr => ?_; (try simp only [Dat.ok, Dat.dec, Leaf.ok, Leaf.val, Span.eta, Set.eta, Task.eta, Done.eta, job.eta, Late.eta, val_sl] at hr); cbv))
      | (have hall : first.any badF = false := by rwa [List.take_of_length_le (by omega)] at ha
         refine fin _ _ _ ?_
         rw [firstsV, if_pos ⟨by omega, hall⟩])
      | fail
theorem firstsC_ok : PcOk Try.prog 26 (detPC firstsC_D) := det_okA fun A p r h hp0 => by
  unfold firstsC_D at h
  split at h
  · rename_i l first
    cases h
    obtain ⟨g0, g1, hp⟩ := hp0
    exact ⟨rfl, FnOk.pre (A' := [Leaf.av fun _ => (Leaf.val l : (List Task)), Leaf.av fun _ => (Leaf.val first : (List Int))]) (firstsC_vc (Leaf.val l) (Leaf.val first) hp) (.mk (Leaf.hle _ g0) (.mk (Leaf.hle _ g1) (trivial)))⟩
  · cases h
def jobsF (i : Int) (t : Task) (b : Int) : Nat → Int → Int → List job
  | 0, _, _ => []
  | f + 1, k, at_ => if at_ < b then ⟨⟨i, k, at_, 0⟩, at_ + t.due, t.long⟩ :: jobsF i t b f (k + 1) (at_ + t.every) else []
def jobsN (i : Int) (t : Task) (b k at_ : Int) : List job := jobsF i t b (b - at_).toNat k at_
theorem jobsF_fuel {i : Int} {t : Task} {b : Int} (he : 1 ≤ t.every) : ∀ {f g : Nat} {k at_ : Int}, (b - at_).toNat ≤ f → (b - at_).toNat ≤ g → jobsF i t b f k at_ = jobsF i t b g k at_
  | 0, 0, _, _, _, _ => rfl
  | 0, g + 1, k, at_, h, _ => by rw [jobsF, jobsF, if_neg (by omega)]
  | f + 1, 0, k, at_, _, h => by rw [jobsF, jobsF, if_neg (by omega)]
  | f + 1, g + 1, k, at_, h1, h2 => by
    rw [jobsF, jobsF]
    split
    · rw [jobsF_fuel he (show (b - (at_ + t.every)).toNat ≤ f by omega) (show (b - (at_ + t.every)).toNat ≤ g by omega)]
    · rfl
theorem jobsN_lt {i : Int} {t : Task} {b k at_ : Int} (he : 1 ≤ t.every) (h : at_ < b) : jobsN i t b k at_ = ⟨⟨i, k, at_, 0⟩, at_ + t.due, t.long⟩ :: jobsN i t b (k + 1) (at_ + t.every) := by
  obtain ⟨f, hf⟩ : ∃ f, (b - at_).toNat = f + 1 := ⟨(b - at_).toNat - 1, by omega⟩
  unfold jobsN
  rw [hf, jobsF, if_pos h, jobsF_fuel he (show (b - (at_ + t.every)).toNat ≤ f by omega) (Nat.le_refl _)]
theorem jobsN_ge {i : Int} {t : Task} {b k at_ : Int} (h : ¬ at_ < b) : jobsN i t b k at_ = [] := by
  unfold jobsN
  rw [show (b - at_).toNat = 0 by omega, jobsF]
def jobsL (b : Int) : Nat → List Task → List Int → List job
  | i, t :: l, n :: r => jobsN i t b 0 n ++ jobsL b (i + 1) l r
  | _, _, _ => []
theorem jobsL_drop {b : Int} {l : List Task} {first : List Int} {k : Nat} (i : Nat) (h1 : k < l.length) (h2 : k < first.length) : jobsL b i (l.drop k) (first.drop k) = jobsN i (l.getD k Dat.d0) b 0 (first.getD k Dat.d0) ++ jobsL b (i + 1) (l.drop (k + 1)) (first.drop (k + 1)) := by
  rw [drop_cons Dat.d0 h1, drop_cons Dat.d0 h2, jobsL]
def jobsV (l : List Task) (first : List Int) (until_ : Int) : List job × Int := if (jobsL until_ 0 l first).length ≤ 2000 then (jobsL until_ 0 l first, 0) else ([], 2)
structure JbX (l : List Task) (first : List Int) (b : Int) where
  k : Nat
  out : List job
  hk : k ≤ l.length
  hl : out.length ≤ 2000
  he : jobsL b 0 l first = out ++ jobsL b k (l.drop k) (first.drop k)
structure JcX (l : List Task) (first : List Int) (b : Int) (k : Nat) where
  j : Int
  n : Int
  out : List job
  j0 : 0 ≤ j
  j1 : j ≤ n
  n1 : n ≤ 30000
  hl : out.length ≤ 2000
  he : jobsL b 0 l first = out ++ (jobsN k (l.getD k Dat.d0) b j n ++ jobsL b (k + 1) (l.drop (k + 1)) (first.drop (k + 1)))
def jobsC_R (r : Th ((List job) × Int)) : AV := .tup [.own 0 fun _ => (r ()).1.length, .i .i64 fun _ => (r ()).2]
def jobsC_H (r : Th ((List job) × Int)) : Hp := [vecO 70 fun _ => (r ()).1]
def jobsC_P (l : (List Task)) (first : (List Int)) (until_ : Int) : Prop := l.length ≤ 16 ∧ l.all okT = true ∧ first.length = l.length ∧ first.any badF = false ∧ 0 ≤ until_ ∧ until_ ≤ 20000
def jobsC_C : PC := fun A K => match A with
  | [l, first, .i .i64 until_] => Ob (fun _ => Leaf.ok (List Task) l ∧ Leaf.ok (List Int) first ∧ jobsC_P (Leaf.val l) (Leaf.val first) (until_ ())) (Gen (α := (List job) × Int) (fun _ => jobsV (Leaf.val l) (Leaf.val first) (until_ ())) fun r => K (jobsC_R fun _ => r) (jobsC_H fun _ => r))
  | _ => Bad 1002
def dJb : FuncId → Option Dt := fun f => match f with
  | _ => none
theorem dJb_ok : DetOk Try.prog dJb := fun f d h => by
  unfold dJb at h
  split at h
  · cases h
set_option maxRecDepth 100000 in
set_option maxHeartbeats 4000000 in
theorem jobsC_vc (l : (List Task)) (first : (List Int)) (until_ : Int) (hp : jobsC_P l first until_) : FnOk Try.prog 27 [Leaf.av fun _ => l, Leaf.av fun _ => first, .i .i64 fun _ => until_] [] (outA (jobsC_R fun _ => jobsV l first until_) (jobsC_H fun _ => jobsV l first until_)) := by
  refine fn_ok envOk zl noCon_ok (draws_ok envOk zl dJb_ok mixed) (keep := [0, 1, 2, 6, 7, 8, 9, 10, 11, 12, 13, 14, 15, 16, 26, 49]) Try.func27 rfl ?_
  obtain ⟨r1, r2, r3, r4, r5, r6⟩ : l.length ≤ 16 ∧ l.all okT = true ∧ first.length = l.length ∧ first.any badF = false ∧ 0 ≤ until_ ∧ until_ ≤ 20000 := hp
  have fin0 : ∀ (e : Int) kl H, jobsV l first until_ = ([], e) → outA (jobsC_R fun _ => jobsV l first until_) (jobsC_H fun _ => jobsV l first until_) (.tup [.nil, .i .i64 fun _ => e]) H kl := fun e kl H h => by
    rw [h]
    cbv
    repeat' first | (refine Stp.mk ?_; cbv) | (refine Gen.mk fun r hr => ?_; (try simp only [Dat.ok, Dat.dec, Leaf.ok, Leaf.val, Span.eta, Set.eta, Task.eta, Done.eta, job.eta, Late.eta, val_sl, val_nil] at hr); cbv) | exact trivial | rfl | refine Both.mk ?_ ?_ | (refine Imp.mk fun h => ?_; (try dsimp only at h); (try simp only [nc, Int.toNat_natCast, ne_eq, zz] at h); (try simp only [nc] at h)) | refine Ob.mk ?_ ?_ | refine Chk.mk (by kernel_rfl) ?_ | refine Eq'.mk ?_ | (refine AllN.mk fun i hi => ?_; cbv) | (refine AllC.mk fun c hc hcm => ?_; (try dsimp only at hc); cbv) | (refine AllS.mk fun r hr => ?_; (try simp only [Dat.ok, Dat.dec, Leaf.ok, Leaf.val, Span.eta, Set.eta, Task.eta, Done.eta, job.eta, Late.eta, val_sl] at hr); cbv)
    all_goals first | rfl | (exfalso; omega)
  have fin1 : ∀ (d : List job) kl H, jobsV l first until_ = (d, 0) → outA (jobsC_R fun _ => jobsV l first until_) (jobsC_H fun _ => jobsV l first until_) (.tup [.own 0 fun _ => d.length, .i .i64 fun _ => 0]) (vecO 70 (fun _ => d) :: H) kl := fun d kl H h => by
    rw [h]
    cbv
    repeat' first | (refine Stp.mk ?_; cbv) | (refine Gen.mk fun r hr => ?_; (try simp only [Dat.ok, Dat.dec, Leaf.ok, Leaf.val, Span.eta, Set.eta, Task.eta, Done.eta, job.eta, Late.eta, val_sl, val_nil] at hr); cbv) | exact trivial | rfl | refine Both.mk ?_ ?_ | (refine Imp.mk fun h => ?_; (try dsimp only at h); (try simp only [nc, Int.toNat_natCast, ne_eq, zz] at h); (try simp only [nc] at h)) | refine Ob.mk ?_ ?_ | refine Chk.mk (by kernel_rfl) ?_ | refine Eq'.mk ?_ | (refine AllN.mk fun i hi => ?_; cbv) | (refine AllC.mk fun c hc hcm => ?_; (try dsimp only at hc); cbv) | (refine AllS.mk fun r hr => ?_; (try simp only [Dat.ok, Dat.dec, Leaf.ok, Leaf.val, Span.eta, Set.eta, Task.eta, Done.eta, job.eta, Late.eta, val_sl] at hr); cbv)
  generalize outA (jobsC_R fun _ => jobsV l first until_) (jobsC_H fun _ => jobsV l first until_) = K at fin0 fin1 ⊢
  cbv
  refine LoopVC.frame [6, 7, 8, 9, 10, 11, 12, 15, 16, 26, 49] (JbX l first until_) (fun x => [(15, .i .i64 fun _ => x.k), (8, .own 0 fun _ => x.out.length)]) (fun x => [(0, vecO 70 fun _ => x.out)]) [0] (fun x => l.length - x.k) ⟨0, [], Nat.zero_le _, Nat.zero_le _, by simp⟩ rfl (fun _ => rfl) ?_ ?_ fun ⟨k, out, hk, hl, he⟩ => ?_
  iterate 2
    · cbv
      repeat' first | (refine Stp.mk ?_; cbv) | (refine Gen.mk fun r hr => ?_; (try simp only [Dat.ok, Dat.dec, Leaf.ok, Leaf.val, Span.eta, Set.eta, Task.eta, Done.eta, job.eta, Late.eta, val_sl, val_nil] at hr); cbv) | exact trivial | rfl | refine Both.mk ?_ ?_ | (refine Imp.mk fun h => ?_; (try dsimp only at h); (try simp only [nc, Int.toNat_natCast, ne_eq, zz] at h); (try simp only [nc] at h)) | refine Ob.mk ?_ ?_ | refine Chk.mk (by kernel_rfl) ?_ | refine Eq'.mk ?_ | (refine AllN.mk fun i hi => ?_; cbv) | (refine AllC.mk fun c hc hcm => ?_; (try dsimp only at hc); cbv) | (refine AllS.mk fun r hr => ?_; (try simp only [Dat.ok, Dat.dec, Leaf.ok, Leaf.val, Span.eta, Set.eta, Task.eta, Done.eta, job.eta, Late.eta, val_sl] at hr); cbv)
  cbv
  repeat' first | (show Stp _; exfalso; first | omega | (exact h ‹_›) | (exact absurd ‹_› h) | (exact Bool.false_ne_true (h.symm.trans (show _ = true by assumption)))) | (refine Stp.mk ?_; cbv) | (refine Gen.mk fun r hr => ?_; (try simp only [Dat.ok, Dat.dec, Leaf.ok, Leaf.val, Span.eta, Set.eta, Task.eta, Done.eta, job.eta, Late.eta, val_sl, val_nil] at hr); cbv) | exact trivial | rfl | refine Both.mk ?_ ?_ | (refine Imp.mk fun h => ?_; (try dsimp only at h); (try simp only [nc, Int.toNat_natCast, ne_eq, zz] at h); (try simp only [nc] at h)) | refine Ob.mk ?_ ?_ | refine Chk.mk (by kernel_rfl) ?_ | refine Eq'.mk ?_ | (refine AllN.mk fun i hi => ?_; cbv) | (refine AllC.mk fun c hc hcm => ?_; (try dsimp only at hc); cbv) | (refine AllS.mk fun r hr => ?_; (try simp only [Dat.ok, Dat.dec, Leaf.ok, Leaf.val, Span.eta, Set.eta, Task.eta, Done.eta, job.eta, Late.eta, val_sl] at hr); cbv)
  all_goals ((try dsimp only at *); (try simp only [nc, Int.toNat_natCast, ne_eq, zz] at *); (try simp only [nc] at *))
  all_goals try rw [nc] at *
  all_goals first
    | omega
    | exact ⟨by omega, by omega⟩
    | (unfold InR; omega)
    | skip
  · have hk2 : k < l.length := by omega
    have ho := okT_iff.1 (tk_get hk2 r2)
    have hf := anyB_get r4 (show k < first.length by omega)
    refine LoopVC.frame [6, 7, 8, 11, 12, 26, 49] (JcX l first until_ k) (fun x => [(11, .i .i64 fun _ => x.j), (12, .i .i64 fun _ => x.n), (8, .own 0 fun _ => x.out.length)]) (fun x => [(0, vecO 70 fun _ => x.out)]) [0] (fun x => (until_ - x.n).toNat)
      ⟨0, first.getD k Dat.d0, out, Int.le_refl _, by omega, by omega, hl, by rw [he, jobsL_drop _ hk2 (by omega)]⟩ rfl (fun _ => rfl) ?_ ?_ fun ⟨j, n, out', j0, j1, n1, hl', he'⟩ => ?_
    iterate 2
      · cbv
        repeat' first | (refine Stp.mk ?_; cbv) | (refine Gen.mk fun r hr => ?_; (try simp only [Dat.ok, Dat.dec, Leaf.ok, Leaf.val, Span.eta, Set.eta, Task.eta, Done.eta, job.eta, Late.eta, val_sl, val_nil] at hr); cbv) | exact trivial | rfl | refine Both.mk ?_ ?_ | (refine Imp.mk fun h => ?_; (try dsimp only at h); (try simp only [nc, Int.toNat_natCast, ne_eq, zz] at h); (try simp only [nc] at h)) | refine Ob.mk ?_ ?_ | refine Chk.mk (by kernel_rfl) ?_ | refine Eq'.mk ?_ | (refine AllN.mk fun i hi => ?_; cbv) | (refine AllC.mk fun c hc hcm => ?_; (try dsimp only at hc); cbv) | (refine AllS.mk fun r hr => ?_; (try simp only [Dat.ok, Dat.dec, Leaf.ok, Leaf.val, Span.eta, Set.eta, Task.eta, Done.eta, job.eta, Late.eta, val_sl] at hr); cbv)
    cbv
    repeat' first | (show Stp _; exfalso; first | omega | (exact h ‹_›) | (exact absurd ‹_› h) | (exact Bool.false_ne_true (h.symm.trans (show _ = true by assumption)))) | (refine Stp.mk ?_; cbv) | (refine Gen.mk fun r hr => ?_; (try simp only [Dat.ok, Dat.dec, Leaf.ok, Leaf.val, Span.eta, Set.eta, Task.eta, Done.eta, job.eta, Late.eta, val_sl, val_nil] at hr); cbv) | exact trivial | rfl | refine Both.mk ?_ ?_ | (refine Imp.mk fun h => ?_; (try dsimp only at h); (try simp only [nc, Int.toNat_natCast, ne_eq, zz] at h); (try simp only [nc] at h)) | refine Ob.mk ?_ ?_ | refine Chk.mk (by kernel_rfl) ?_ | refine Eq'.mk ?_ | (refine AllN.mk fun i hi => ?_; cbv) | (refine AllC.mk fun c hc hcm => ?_; (try dsimp only at hc); cbv) | (refine AllS.mk fun r hr => ?_; (try simp only [Dat.ok, Dat.dec, Leaf.ok, Leaf.val, Span.eta, Set.eta, Task.eta, Done.eta, job.eta, Late.eta, val_sl] at hr); cbv)
    all_goals ((try dsimp only at *); (try simp only [nc, Int.toNat_natCast, ne_eq, zz] at *); (try simp only [nc] at *))
    all_goals try rw [nc] at *
    all_goals first
      | omega
      | (unfold InR; omega)
      | exact ⟨Nat.le_refl _, trivial, by omega, by omega⟩
      | skip
    · refine fin0 _ _ _ ?_
      have e := congrArg List.length (he'.trans (by rw [jobsN_lt ho.1 (by omega)]))
      simp only [List.length_append, List.length_cons] at e
      rw [jobsV, if_neg (by omega)]
    · refine ⟨⟨j + 1, n + (l.getD k Dat.d0).every, out' ++ [⟨⟨k, j, n, 0⟩, n + (l.getD k Dat.d0).due, (l.getD k Dat.d0).long⟩], by omega, by omega, by omega, by rw [List.length_append, List.length_singleton]; omega, by rw [he', jobsN_lt ho.1 (by omega)]; simp⟩, ?_, ?_, rfl, by (try dsimp only); omega⟩
      · cbv
        repeat' first | (refine Stp.mk ?_; cbv) | (refine Gen.mk fun r hr => ?_; (try simp only [Dat.ok, Dat.dec, Leaf.ok, Leaf.val, Span.eta, Set.eta, Task.eta, Done.eta, job.eta, Late.eta, val_sl, val_nil] at hr); cbv) | exact trivial | rfl | refine Both.mk ?_ ?_ | (refine Imp.mk fun h => ?_; (try dsimp only at h); (try simp only [nc, Int.toNat_natCast, ne_eq, zz] at h); (try simp only [nc] at h)) | refine Ob.mk ?_ ?_ | refine Chk.mk (by kernel_rfl) ?_ | refine Eq'.mk ?_ | (refine AllN.mk fun i hi => ?_; cbv) | (refine AllC.mk fun c hc hcm => ?_; (try dsimp only at hc); cbv) | (refine AllS.mk fun r hr => ?_; (try simp only [Dat.ok, Dat.dec, Leaf.ok, Leaf.val, Span.eta, Set.eta, Task.eta, Done.eta, job.eta, Late.eta, val_sl] at hr); cbv)
        all_goals simp
      · cbv
        repeat' first | (refine Stp.mk ?_; cbv) | (refine Gen.mk fun r hr => ?_; (try simp only [Dat.ok, Dat.dec, Leaf.ok, Leaf.val, Span.eta, Set.eta, Task.eta, Done.eta, job.eta, Late.eta, val_sl, val_nil] at hr); cbv) | exact trivial | rfl | refine Both.mk ?_ ?_ | (refine Imp.mk fun h => ?_; (try dsimp only at h); (try simp only [nc, Int.toNat_natCast, ne_eq, zz] at h); (try simp only [nc] at h)) | refine Ob.mk ?_ ?_ | refine Chk.mk (by kernel_rfl) ?_ | refine Eq'.mk ?_ | (refine AllN.mk fun i hi => ?_; cbv) | (refine AllC.mk fun c hc hcm => ?_; (try dsimp only at hc); cbv) | (refine AllS.mk fun r hr => ?_; (try simp only [Dat.ok, Dat.dec, Leaf.ok, Leaf.val, Span.eta, Set.eta, Task.eta, Done.eta, job.eta, Late.eta, val_sl] at hr); cbv)
        all_goals ((try dsimp only at *); (try simp only [nc, Int.toNat_natCast, ne_eq, zz] at *); (try simp only [nc] at *))
        all_goals first
          | (rw [gd_snoc out' _ Dat.d0 i (by assumption)]; cases decide (i < out'.length) <;> rfl)
          | (simp; done)
          | fail
    · refine ⟨⟨k + 1, out', by omega, by omega, by rw [he', jobsN_ge (by omega)]; simp⟩, ?_, ?_, rfl, by (try dsimp only); omega⟩
      · cbv
        repeat' first | (refine Stp.mk ?_; cbv) | (refine Gen.mk fun r hr => ?_; (try simp only [Dat.ok, Dat.dec, Leaf.ok, Leaf.val, Span.eta, Set.eta, Task.eta, Done.eta, job.eta, Late.eta, val_sl, val_nil] at hr); cbv) | exact trivial | rfl | refine Both.mk ?_ ?_ | (refine Imp.mk fun h => ?_; (try dsimp only at h); (try simp only [nc, Int.toNat_natCast, ne_eq, zz] at h); (try simp only [nc] at h)) | refine Ob.mk ?_ ?_ | refine Chk.mk (by kernel_rfl) ?_ | refine Eq'.mk ?_ | (refine AllN.mk fun i hi => ?_; cbv) | (refine AllC.mk fun c hc hcm => ?_; (try dsimp only at hc); cbv) | (refine AllS.mk fun r hr => ?_; (try simp only [Dat.ok, Dat.dec, Leaf.ok, Leaf.val, Span.eta, Set.eta, Task.eta, Done.eta, job.eta, Late.eta, val_sl] at hr); cbv)
      · cbv
        repeat' first | (refine Stp.mk ?_; cbv) | (refine Gen.mk fun r hr => ?_; (try simp only [Dat.ok, Dat.dec, Leaf.ok, Leaf.val, Span.eta, Set.eta, Task.eta, Done.eta, job.eta, Late.eta, val_sl, val_nil] at hr); cbv) | exact trivial | rfl | refine Both.mk ?_ ?_ | (refine Imp.mk fun h => ?_; (try dsimp only at h); (try simp only [nc, Int.toNat_natCast, ne_eq, zz] at h); (try simp only [nc] at h)) | refine Ob.mk ?_ ?_ | refine Chk.mk (by kernel_rfl) ?_ | refine Eq'.mk ?_ | (refine AllN.mk fun i hi => ?_; cbv) | (refine AllC.mk fun c hc hcm => ?_; (try dsimp only at hc); cbv) | (refine AllS.mk fun r hr => ?_; (try simp only [Dat.ok, Dat.dec, Leaf.ok, Leaf.val, Span.eta, Set.eta, Task.eta, Done.eta, job.eta, Late.eta, val_sl] at hr); cbv)
        all_goals ((try dsimp only at *); (try simp only [nc, Int.toNat_natCast, ne_eq, zz] at *); (try simp only [nc] at *))
  · refine fin1 _ _ _ ?_
    have e0 : jobsL until_ k (l.drop k) (first.drop k) = [] := by rw [List.drop_eq_nil_of_le (by omega)]; rfl
    rw [e0, List.append_nil] at he
    rw [jobsV, if_pos (by rw [he]; exact hl), he]
theorem jobsC_ok : PcOk Try.prog 27 (jobsC_C) := fun A K h => by
  unfold jobsC_C at h
  split at h
  · rename_i l first until_
    cases h with
    | mk h1 h2 =>
      obtain ⟨g0, g1, hp⟩ := h1
      refine FnOk.pre ?_ (A' := [Leaf.av fun _ => (Leaf.val l : (List Task)), Leaf.av fun _ => (Leaf.val first : (List Int)), .i .i64 fun _ => until_ ()]) (.mk (Leaf.hle _ g0) (.mk (Leaf.hle _ g1) (.mk (.mk (.mk rfl) (.mk rfl)) (trivial))))
      exact FnOk.out (K := fun r H _ => K r H) (jobsC_vc (Leaf.val l) (Leaf.val first) (until_ ()) hp) rfl h2.out
  · cases h

end Go.Proofs.Ytcnfdohlgmipoaa
