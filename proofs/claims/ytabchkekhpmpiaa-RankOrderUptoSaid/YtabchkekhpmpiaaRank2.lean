/- slices.Index, Contains; rank.Good; the closure of rank.Find: walked. -/
import Derived.Test.YtabchkekhpmpiaaRank
set_option linter.all false
namespace Go.Proofs.Ytabchkekhpmpiaa
open Go Go.Abs

def idxF (x : Int) : Nat → List Int → Int
  | _, [] => -1
  | k, y :: r => if x = y then (k : Int) else idxF x (k + 1) r
def idxI_R (r : Th (Int)) : AV := .i .i64 fun _ => (r ())
def idxI_S (l : (List Int)) (x : Int) : Int := idxF x 0 l
def idxI_P (l : (List Int)) (x : Int) : Prop := l.length ≤ 9223372036854775807
def idxI_D : Det := fun A => match A with
  | [l, .i .i64 x] => some (fun _ => Leaf.ok (List Int) l ∧ idxI_P (Leaf.val l) (x ()), idxI_R fun _ => idxI_S (Leaf.val l) (x ()))
  | _ => none
structure IdX (x : Int) (l : List Int) where
  k : Nat
  hk : k ≤ l.length
  hr : idxF x 0 l = idxF x k (l.drop k)
theorem idxF_drop {x : Int} {l : List Int} {k : Nat} (hk : k < l.length) : idxF x k (l.drop k) = if x = l.getD k 0 then (k : Int) else idxF x (k + 1) (l.drop (k + 1)) := by
  rw [drop_cons 0 hk, idxF]
theorem idxF_mem {x : Int} : ∀ {l : List Int} {k : Nat}, (0 ≤ idxF x k l ↔ x ∈ l) ∧ (x ∈ l → idxF x k l < k + l.length)
  | [], k => by simp [idxF]
  | y :: r, k => by
    have ih := idxF_mem (x := x) (l := r) (k := k + 1)
    rw [idxF]
    by_cases h : x = y
    · rw [if_pos h]; subst h; simp; omega
    · rw [if_neg h]
      simp only [List.mem_cons, h, false_or, List.length_cons]
      refine ⟨ih.1, fun hx => ?_⟩
      have := ih.2 hx
      omega
set_option maxRecDepth 100000 in
set_option maxHeartbeats 4000000 in
theorem idxI_vc (l : (List Int)) (x : Int) (hp : idxI_P l x) : FnOk Try.prog 73 [Leaf.av fun _ => l, .i .i64 fun _ => x] [] (outA (idxI_R fun _ => idxI_S l x) []) := by
  refine fn_ok envOk zl noCon_ok noDraws_ok (keep := [0, 1, 4, 5, 7, 8, 9, 16]) Try.func73 rfl ?_
  have hp' : l.length ≤ 9223372036854775807 := hp
  have fin : ∀ (n : Int) H kl, idxF x 0 l = n → outA (idxI_R fun _ => idxI_S l x) [] (.i .i64 fun _ => n) H kl := fun n H kl h => by
    have e : idxI_S l x = n := h
    rw [e]
    cbv
    repeat' first | (refine Stp.mk ?_; cbv) | (refine Gen.mk fun r hr => ?_; (try simp only [Dat.ok, Dat.dec, Leaf.ok, Leaf.val, Span.eta, Set.eta, Task.eta, Done.eta, Late.eta, val_sl, val_nil] at hr); cbv) | exact trivial | rfl | refine Both.mk ?_ ?_ | (refine Imp.mk fun h => ?_; (try dsimp only at h); (try simp only [nc, Int.toNat_natCast, Bool.not_eq_true', Bool.not_eq_false', decide_eq_true_eq, decide_eq_false_iff_not, beq_iff_eq, beq_eq_false_iff_ne, ba_inj, bne_iff_ne, ne_eq, Bool.and_eq_true, Bool.or_eq_true, Bool.and_eq_false_iff, Bool.or_eq_false_iff, Int.not_le, Int.not_lt, Nat.not_le, Nat.not_lt] at h); (try simp only [nc] at h)) | refine Ob.mk ?_ ?_ | refine Chk.mk (by kernel_rfl) ?_ | refine Eq'.mk ?_ | (refine AllN.mk fun i hi => ?_; cbv) | (refine AllS.mk fun r hr => ?_; (try simp only [Dat.ok, Dat.dec, Leaf.ok, Leaf.val, Span.eta, Set.eta, Task.eta, Done.eta, Late.eta, val_sl] at hr); cbv)
  generalize outA (idxI_R fun _ => idxI_S l x) [] = K at fin ⊢
  cbv
  refine LoopVC.frame [4, 5, 8, 9, 16] (IdX x l) (fun x => [(8, .i .i64 fun _ => x.k)]) (fun _ => []) [] (fun x => l.length - x.k) ⟨0, Nat.zero_le _, by rw [List.drop_zero]⟩ rfl (fun _ => rfl) ?_ ?_ fun ⟨k, hk, hr⟩ => ?_
  · cbv
    repeat' first | (refine Stp.mk ?_; cbv) | (refine Gen.mk fun r hr => ?_; (try simp only [Dat.ok, Dat.dec, Leaf.ok, Leaf.val, Span.eta, Set.eta, Task.eta, Done.eta, Late.eta, val_sl, val_nil] at hr); cbv) | exact trivial | rfl | refine Both.mk ?_ ?_ | (refine Imp.mk fun h => ?_; (try dsimp only at h); (try simp only [nc, Int.toNat_natCast, Bool.not_eq_true', Bool.not_eq_false', decide_eq_true_eq, decide_eq_false_iff_not, beq_iff_eq, beq_eq_false_iff_ne, ba_inj, bne_iff_ne, ne_eq, Bool.and_eq_true, Bool.or_eq_true, Bool.and_eq_false_iff, Bool.or_eq_false_iff, Int.not_le, Int.not_lt, Nat.not_le, Nat.not_lt] at h); (try simp only [nc] at h)) | refine Ob.mk ?_ ?_ | refine Chk.mk (by kernel_rfl) ?_ | refine Eq'.mk ?_ | (refine AllN.mk fun i hi => ?_; cbv) | (refine AllS.mk fun r hr => ?_; (try simp only [Dat.ok, Dat.dec, Leaf.ok, Leaf.val, Span.eta, Set.eta, Task.eta, Done.eta, Late.eta, val_sl] at hr); cbv)
  · cbv
    repeat' first | (refine Stp.mk ?_; cbv) | (refine Gen.mk fun r hr => ?_; (try simp only [Dat.ok, Dat.dec, Leaf.ok, Leaf.val, Span.eta, Set.eta, Task.eta, Done.eta, Late.eta, val_sl, val_nil] at hr); cbv) | exact trivial | rfl | refine Both.mk ?_ ?_ | (refine Imp.mk fun h => ?_; (try dsimp only at h); (try simp only [nc, Int.toNat_natCast, Bool.not_eq_true', Bool.not_eq_false', decide_eq_true_eq, decide_eq_false_iff_not, beq_iff_eq, beq_eq_false_iff_ne, ba_inj, bne_iff_ne, ne_eq, Bool.and_eq_true, Bool.or_eq_true, Bool.and_eq_false_iff, Bool.or_eq_false_iff, Int.not_le, Int.not_lt, Nat.not_le, Nat.not_lt] at h); (try simp only [nc] at h)) | refine Ob.mk ?_ ?_ | refine Chk.mk (by kernel_rfl) ?_ | refine Eq'.mk ?_ | (refine AllN.mk fun i hi => ?_; cbv) | (refine AllS.mk fun r hr => ?_; (try simp only [Dat.ok, Dat.dec, Leaf.ok, Leaf.val, Span.eta, Set.eta, Task.eta, Done.eta, Late.eta, val_sl] at hr); cbv)
  · cbv
    repeat' first | (show Stp _; exfalso; first | omega | (exact h ‹_›) | (exact absurd ‹_› h) | (exact Bool.false_ne_true (h.symm.trans (show _ = true by assumption)))) | (refine Stp.mk ?_; cbv) | (refine Gen.mk fun r hr => ?_; (try simp only [Dat.ok, Dat.dec, Leaf.ok, Leaf.val, Span.eta, Set.eta, Task.eta, Done.eta, Late.eta, val_sl, val_nil] at hr); cbv) | exact trivial | rfl | refine Both.mk ?_ ?_ | (refine Imp.mk fun h => ?_; (try dsimp only at h); (try simp only [nc, Int.toNat_natCast, Bool.not_eq_true', Bool.not_eq_false', decide_eq_true_eq, decide_eq_false_iff_not, beq_iff_eq, beq_eq_false_iff_ne, ba_inj, bne_iff_ne, ne_eq, Bool.and_eq_true, Bool.or_eq_true, Bool.and_eq_false_iff, Bool.or_eq_false_iff, Int.not_le, Int.not_lt, Nat.not_le, Nat.not_lt] at h); (try simp only [nc] at h)) | refine Ob.mk ?_ ?_ | refine Chk.mk (by kernel_rfl) ?_ | refine Eq'.mk ?_ | (refine AllN.mk fun i hi => ?_; cbv) | (refine AllS.mk fun r hr => ?_; (try simp only [Dat.ok, Dat.dec, Leaf.ok, Leaf.val, Span.eta, Set.eta, Task.eta, Done.eta, Late.eta, val_sl] at hr); cbv)
    all_goals ((try dsimp only at *); (try simp only [nc, Int.toNat_natCast, Bool.not_eq_true', Bool.not_eq_false', decide_eq_true_eq, decide_eq_false_iff_not, beq_iff_eq, beq_eq_false_iff_ne, ba_inj, bne_iff_ne, ne_eq, Bool.and_eq_true, Bool.or_eq_true, Bool.and_eq_false_iff, Bool.or_eq_false_iff, Int.not_le, Int.not_lt, Nat.not_le, Nat.not_lt] at *); (try simp only [nc] at *))
    all_goals try rw [nc] at *
    all_goals first
      | omega
      | exact ⟨by omega, by omega⟩
      | (unfold InR; omega)
      | (have hk2 : k < l.length := by omega
         refine fin _ _ _ ?_
         rw [hr, idxF_drop hk2, if_pos (by assumption)])
      | (have hk2 : k < l.length := by omega
         refine ⟨⟨k + 1, by omega, by rw [hr, idxF_drop hk2, if_neg (by assumption)]⟩, ?_, ?_, rfl, by (try dsimp only); omega⟩
         · cbv
           repeat' first | (refine Stp.mk ?_; cbv) | (refine Gen.mk fun r hr => ?_; (try simp only [Dat.ok, Dat.dec, Leaf.ok, Leaf.val, Span.eta, Set.eta, Task.eta, Done.eta, Late.eta, val_sl, val_nil] at hr); cbv) | exact trivial | rfl | refine Both.mk ?_ ?_ | (refine Imp.mk fun h => ?_; (try dsimp only at h); (try simp only [nc, Int.toNat_natCast, Bool.not_eq_true', Bool.not_eq_false', decide_eq_true_eq, decide_eq_false_iff_not, beq_iff_eq, beq_eq_false_iff_ne, ba_inj, bne_iff_ne, ne_eq, Bool.and_eq_true, Bool.or_eq_true, Bool.and_eq_false_iff, Bool.or_eq_false_iff, Int.not_le, Int.not_lt, Nat.not_le, Nat.not_lt] at h); (try simp only [nc] at h)) | refine Ob.mk ?_ ?_ | refine Chk.mk (by kernel_rfl) ?_ | refine Eq'.mk ?_ | (refine AllN.mk fun i hi => ?_; cbv) | (refine AllS.mk fun r hr => ?_; (try simp only [Dat.ok, Dat.dec, Leaf.ok, Leaf.val, Span.eta, Set.eta, Task.eta, Done.eta, Late.eta, val_sl] at hr); cbv)
         · cbv
           repeat' first | (refine Stp.mk ?_; cbv) | (refine Gen.mk fun r hr => ?_; (try simp only [Dat.ok, Dat.dec, Leaf.ok, Leaf.val, Span.eta, Set.eta, Task.eta, Done.eta, Late.eta, val_sl, val_nil] at hr); cbv) | exact trivial | rfl | refine Both.mk ?_ ?_ | (refine Imp.mk fun h => ?_; (try dsimp only at h); (try simp only [nc, Int.toNat_natCast, Bool.not_eq_true', Bool.not_eq_false', decide_eq_true_eq, decide_eq_false_iff_not, beq_iff_eq, beq_eq_false_iff_ne, ba_inj, bne_iff_ne, ne_eq, Bool.and_eq_true, Bool.or_eq_true, Bool.and_eq_false_iff, Bool.or_eq_false_iff, Int.not_le, Int.not_lt, Nat.not_le, Nat.not_lt] at h); (try simp only [nc] at h)) | refine Ob.mk ?_ ?_ | refine Chk.mk (by kernel_rfl) ?_ | refine Eq'.mk ?_ | (refine AllN.mk fun i hi => ?_; cbv) | (refine AllS.mk fun r hr => ?_; (try simp only [Dat.ok, Dat.dec, Leaf.ok, Leaf.val, Span.eta, Set.eta, Task.eta, Done.eta, Late.eta, val_sl] at hr); cbv))
      | (refine fin _ _ _ ?_
         rw [hr, List.drop_eq_nil_of_le (by omega), idxF])
      | fail
theorem idxI_ok : PcOk Try.prog 73 (detPC idxI_D) := det_okA fun A p r h hp0 => by
  unfold idxI_D at h
  split at h
  · rename_i l x
    cases h
    obtain ⟨g0, hp⟩ := hp0
    exact ⟨rfl, FnOk.pre (A' := [Leaf.av fun _ => (Leaf.val l : (List Int)), .i .i64 fun _ => x ()]) (idxI_vc (Leaf.val l) (x ()) hp) (.mk (Leaf.hle _ g0) (.mk (.mk (.mk rfl) (.mk rfl)) (trivial)))⟩
  · cases h
def conI_R (r : Th (Bool)) : AV := .b fun _ => (r ())
def conI_S (l : (List Int)) (x : Int) : Bool := decide (x ∈ l)
def conI_P (l : (List Int)) (x : Int) : Prop := l.length ≤ 9223372036854775807
def conI_D : Det := fun A => match A with
  | [l, .i .i64 x] => some (fun _ => Leaf.ok (List Int) l ∧ conI_P (Leaf.val l) (x ()), conI_R fun _ => conI_S (Leaf.val l) (x ()))
  | _ => none
noncomputable def cCn : FuncId → Con := fun f => match f with
  | 73 => pureCon (detPC idxI_D)
  | _ => fun _ _ _ => Bad 1001
theorem cCn_ok : ConOk Try.prog cCn := fun f A H K h => by
  unfold cCn at h
  split at h
  · exact ⟨⟨Try.f73, Try.func73, by kernel_rfl, by kernel_rfl⟩, pureCon_ok idxI_ok h⟩
  · cases h
set_option maxRecDepth 100000 in
set_option maxHeartbeats 4000000 in
theorem conI_vc (l : (List Int)) (x : Int) (hp : conI_P l x) : FnOk Try.prog 42 [Leaf.av fun _ => l, .i .i64 fun _ => x] [] (outA (conI_R fun _ => conI_S l x) []) := by
  refine fn_ok envOk zl cCn_ok noDraws_ok (keep := [0, 1, 4]) Try.func42 rfl ?_
  have hp' : l.length ≤ 9223372036854775807 := hp
  cbv
  repeat' first | (show Stp _; exfalso; first | omega | (exact h ‹_›) | (exact absurd ‹_› h) | (exact Bool.false_ne_true (h.symm.trans (show _ = true by assumption)))) | (refine Stp.mk ?_; cbv) | (refine Gen.mk fun r hr => ?_; (try simp only [Dat.ok, Dat.dec, Leaf.ok, Leaf.val, Span.eta, Set.eta, Task.eta, Done.eta, Late.eta, val_sl, val_nil] at hr); cbv) | exact trivial | rfl | refine Both.mk ?_ ?_ | (refine Imp.mk fun h => ?_; (try dsimp only at h); (try simp only [nc, Int.toNat_natCast, Bool.not_eq_true', Bool.not_eq_false', decide_eq_true_eq, decide_eq_false_iff_not, beq_iff_eq, beq_eq_false_iff_ne, ba_inj, bne_iff_ne, ne_eq, Bool.and_eq_true, Bool.or_eq_true, Bool.and_eq_false_iff, Bool.or_eq_false_iff, Int.not_le, Int.not_lt, Nat.not_le, Nat.not_lt] at h); (try simp only [nc] at h)) | refine Ob.mk ?_ ?_ | refine Chk.mk (by kernel_rfl) ?_ | refine Eq'.mk ?_ | (refine AllN.mk fun i hi => ?_; cbv) | (refine AllS.mk fun r hr => ?_; (try simp only [Dat.ok, Dat.dec, Leaf.ok, Leaf.val, Span.eta, Set.eta, Task.eta, Done.eta, Late.eta, val_sl] at hr); cbv)
  all_goals ((try dsimp only at *); (try simp only [nc, Int.toNat_natCast, Bool.not_eq_true', Bool.not_eq_false', decide_eq_true_eq, decide_eq_false_iff_not, beq_iff_eq, beq_eq_false_iff_ne, ba_inj, bne_iff_ne, ne_eq, Bool.and_eq_true, Bool.or_eq_true, Bool.and_eq_false_iff, Bool.or_eq_false_iff, Int.not_le, Int.not_lt, Nat.not_le, Nat.not_lt] at *); (try simp only [nc] at *))
  all_goals try simp only [Dat.dec, Leaf.val, Span.eta, Set.eta, Task.eta, Done.eta, Late.eta, val_sl] at *
  all_goals first
    | exact ⟨⟨rfl, fun i _ => Dat.hok _⟩, hp'⟩
    | (show decide (0 ≤ idxF x 0 l) = decide (x ∈ l); exact decide_eq_decide.2 idxF_mem.1)
    | fail
theorem conI_ok : PcOk Try.prog 42 (detPC conI_D) := det_okA fun A p r h hp0 => by
  unfold conI_D at h
  split at h
  · rename_i l x
    cases h
    obtain ⟨g0, hp⟩ := hp0
    exact ⟨rfl, FnOk.pre (A' := [Leaf.av fun _ => (Leaf.val l : (List Int)), .i .i64 fun _ => x ()]) (conI_vc (Leaf.val l) (x ()) hp) (.mk (Leaf.hle _ g0) (.mk (.mk (.mk rfl) (.mk rfl)) (trivial)))⟩
  · cases h
def goodV (l : List Task) (o : List Int) (s : Set) : Bool × Int :=
  if (ordV l o).2 = 0 then (if (tabV (ordV l o).1 s).2 = 0 then (!decide ((0 : Int) ∈ (tabV (ordV l o).1 s).1), 0) else (false, (tabV (ordV l o).1 s).2)) else (false, (ordV l o).2)
theorem ofRk_len {l : List Task} : ∀ {o : List Int} {seen : List Bool} {out m : List Task}, ofRk l o seen out = some m → m.length = out.length + o.length
  | [], _, out, m, h => by rw [ofRk] at h; cases h; rfl
  | i :: r, seen, out, m, h => by
    rw [ofRk] at h
    split at h
    · cases h
    · split at h
      · cases h
      · have := ofRk_len h
        rw [snocT_len] at this
        simp only [List.length_cons]; omega
theorem ord_len (l : List Task) (o : List Int) : (ordV l o).1.length ≤ l.length := by
  unfold ordV
  split
  · split
    · rename_i h
      split
      · rename_i m hm
        have := ofRk_len hm
        show m.length ≤ l.length
        simp only [List.length_nil] at this
        omega
      · exact Nat.zero_le _
    · exact Nat.zero_le _
  · exact Nat.zero_le _
theorem tabV_len (l : List Task) (s : Set) : (tabV l s).1.length ≤ l.length := by
  unfold tabV
  split
  · exact Nat.le_of_eq (tab_len l s)
  · exact Nat.zero_le _
def good_R (r : Th (Bool × Int)) : AV := .tup [.b fun _ => (r ()).1, .i .i64 fun _ => (r ()).2]
def good_P (l : (List Task)) (o : (List Int)) (s : Set) : Prop := l.length ≤ 9223372036854775807 ∧ o.length ≤ 9223372036854775807 ∧ s.spans.length ≤ 9223372036854775807
def good_D : Det := fun A => match A with
  | [l, o, .agg s] => some (fun _ => Leaf.ok (List Task) l ∧ Leaf.ok (List Int) o ∧ Dat.ok Set s ∧ good_P (Leaf.val l) (Leaf.val o) (Dat.dec s), good_R fun _ => goodV (Leaf.val l) (Leaf.val o) (Dat.dec s))
  | _ => none
noncomputable def cGd : FuncId → Con := fun f => match f with
  | 20 => pureCon ord_C
  | 39 => pureCon tab_C
  | 42 => pureCon (detPC conI_D)
  | _ => fun _ _ _ => Bad 1001
theorem cGd_ok : ConOk Try.prog cGd := fun f A H K h => by
  unfold cGd at h
  split at h
  · exact ⟨⟨Try.f20, Try.func20, by kernel_rfl, by kernel_rfl⟩, pureCon_ok ord_ok h⟩
  · exact ⟨⟨Try.f39, Try.func39, by kernel_rfl, by kernel_rfl⟩, pureCon_ok tab_ok h⟩
  · exact ⟨⟨Try.f42, Try.func42, by kernel_rfl, by kernel_rfl⟩, pureCon_ok conI_ok h⟩
  · cases h
set_option maxRecDepth 100000 in
set_option maxHeartbeats 4000000 in
theorem good_vc (l : (List Task)) (o : (List Int)) (s : Set) (hp : good_P l o s) : FnOk Try.prog 28 [Leaf.av fun _ => l, Leaf.av fun _ => o, .agg (Dat.enc fun _ => s)] [] (outA (good_R fun _ => goodV l o s) []) := by
  refine fn_ok envOk zl cGd_ok noDraws_ok (keep := [0, 1, 2, 5, 6, 7, 8, 9, 10, 18, 27]) Try.func28 rfl ?_
  obtain ⟨hp1, hp2, hp3⟩ : l.length ≤ 9223372036854775807 ∧ o.length ≤ 9223372036854775807 ∧ s.spans.length ≤ 9223372036854775807 := hp
  have fin : ∀ (b : Bool) (e : Int) H kl, goodV l o s = (b, e) → outA (good_R fun _ => goodV l o s) [] (.tup [.bc b, .i .i64 fun _ => e]) H kl := fun b e H kl h => by
    rw [h]
    cbv
    repeat' first | (refine Stp.mk ?_; cbv) | (refine Gen.mk fun r hr => ?_; (try simp only [Dat.ok, Dat.dec, Leaf.ok, Leaf.val, Span.eta, Set.eta, Task.eta, Done.eta, Late.eta, val_sl, val_nil] at hr); cbv) | exact trivial | rfl | refine Both.mk ?_ ?_ | (refine Imp.mk fun h => ?_; (try dsimp only at h); (try simp only [nc, Int.toNat_natCast, Bool.not_eq_true', Bool.not_eq_false', decide_eq_true_eq, decide_eq_false_iff_not, beq_iff_eq, beq_eq_false_iff_ne, ba_inj, bne_iff_ne, ne_eq, Bool.and_eq_true, Bool.or_eq_true, Bool.and_eq_false_iff, Bool.or_eq_false_iff, Int.not_le, Int.not_lt, Nat.not_le, Nat.not_lt] at h); (try simp only [nc] at h)) | refine Ob.mk ?_ ?_ | refine Chk.mk (by kernel_rfl) ?_ | refine Eq'.mk ?_ | (refine AllN.mk fun i hi => ?_; cbv) | (refine AllS.mk fun r hr => ?_; (try simp only [Dat.ok, Dat.dec, Leaf.ok, Leaf.val, Span.eta, Set.eta, Task.eta, Done.eta, Late.eta, val_sl] at hr); cbv)
  have fin2 : ∀ (b : PUnit → Bool) (e : Int) H kl, goodV l o s = (b (), e) → outA (good_R fun _ => goodV l o s) [] (.tup [.b b, .i .i64 fun _ => e]) H kl := fun b e H kl h => by
    rw [h]
    cbv
    repeat' first | (refine Stp.mk ?_; cbv) | (refine Gen.mk fun r hr => ?_; (try simp only [Dat.ok, Dat.dec, Leaf.ok, Leaf.val, Span.eta, Set.eta, Task.eta, Done.eta, Late.eta, val_sl, val_nil] at hr); cbv) | exact trivial | rfl | refine Both.mk ?_ ?_ | (refine Imp.mk fun h => ?_; (try dsimp only at h); (try simp only [nc, Int.toNat_natCast, Bool.not_eq_true', Bool.not_eq_false', decide_eq_true_eq, decide_eq_false_iff_not, beq_iff_eq, beq_eq_false_iff_ne, ba_inj, bne_iff_ne, ne_eq, Bool.and_eq_true, Bool.or_eq_true, Bool.and_eq_false_iff, Bool.or_eq_false_iff, Int.not_le, Int.not_lt, Nat.not_le, Nat.not_lt] at h); (try simp only [nc] at h)) | refine Ob.mk ?_ ?_ | refine Chk.mk (by kernel_rfl) ?_ | refine Eq'.mk ?_ | (refine AllN.mk fun i hi => ?_; cbv) | (refine AllS.mk fun r hr => ?_; (try simp only [Dat.ok, Dat.dec, Leaf.ok, Leaf.val, Span.eta, Set.eta, Task.eta, Done.eta, Late.eta, val_sl] at hr); cbv)
  generalize outA (good_R fun _ => goodV l o s) [] = K at fin fin2 ⊢
  cbv
  repeat' first | (show Stp _; exfalso; first | omega | (exact h ‹_›) | (exact absurd ‹_› h) | (exact Bool.false_ne_true (h.symm.trans (show _ = true by assumption)))) | (refine Stp.mk ?_; cbv) | (refine Gen.mk fun r hr => ?_; (try simp only [Dat.ok, Dat.dec, Leaf.ok, Leaf.val, Span.eta, Set.eta, Task.eta, Done.eta, Late.eta, val_sl, val_nil] at hr); cbv) | exact trivial | rfl | refine Both.mk ?_ ?_ | (refine Imp.mk fun h => ?_; (try dsimp only at h); (try simp only [nc, Int.toNat_natCast, Bool.not_eq_true', Bool.not_eq_false', decide_eq_true_eq, decide_eq_false_iff_not, beq_iff_eq, beq_eq_false_iff_ne, ba_inj, bne_iff_ne, ne_eq, Bool.and_eq_true, Bool.or_eq_true, Bool.and_eq_false_iff, Bool.or_eq_false_iff, Int.not_le, Int.not_lt, Nat.not_le, Nat.not_lt] at h); (try simp only [nc] at h)) | refine Ob.mk ?_ ?_ | refine Chk.mk (by kernel_rfl) ?_ | refine Eq'.mk ?_ | (refine AllN.mk fun i hi => ?_; cbv) | (refine AllS.mk fun r hr => ?_; (try simp only [Dat.ok, Dat.dec, Leaf.ok, Leaf.val, Span.eta, Set.eta, Task.eta, Done.eta, Late.eta, val_sl] at hr); cbv)
  all_goals ((try dsimp only at *); (try simp only [nc, Int.toNat_natCast, Bool.not_eq_true', Bool.not_eq_false', decide_eq_true_eq, decide_eq_false_iff_not, beq_iff_eq, beq_eq_false_iff_ne, ba_inj, bne_iff_ne, ne_eq, Bool.and_eq_true, Bool.or_eq_true, Bool.and_eq_false_iff, Bool.or_eq_false_iff, Int.not_le, Int.not_lt, Nat.not_le, Nat.not_lt] at *); (try simp only [nc] at *))
  all_goals try simp only [Dat.dec, Leaf.val, Span.eta, Set.eta, Task.eta, Done.eta, Late.eta, val_sl] at *
  all_goals try (rename (_ = tabV _ _) => hq3; subst hq3)
  all_goals try (rename (_ = ordV _ _) => hq3; subst hq3)
  all_goals have hol := ord_len l o
  all_goals have htl := tabV_len (ordV l o).1 s
  all_goals first
    | exact Nat.le_refl _
    | exact ⟨⟨rfl, fun i _ => Dat.hok _⟩, ⟨rfl, fun i _ => Dat.hok _⟩, hp1, hp2⟩
    | exact ⟨⟨rfl, fun i _ => Dat.hok _⟩, ⟨trivial, rfl, fun i _ => Dat.hok _⟩, show _ ≤ _ by omega, hp3⟩
    | exact ⟨⟨rfl, fun i _ => Dat.hok _⟩, show _ ≤ _ by omega⟩
    | (refine fin _ _ _ _ ?_; rw [goodV, if_neg (by assumption)]; done)
    | (refine fin _ _ _ _ ?_; rw [goodV, if_pos (by assumption), if_neg (by assumption)]; done)
    | (refine fin2 _ _ _ _ ?_; rw [goodV, if_pos (by assumption), if_pos (by assumption)]; rfl)
    | fail
theorem good_ok : PcOk Try.prog 28 (detPC good_D) := det_okA fun A p r h hp0 => by
  unfold good_D at h
  split at h
  · rename_i l o s
    cases h
    obtain ⟨g0, g1, g2, hp⟩ := hp0
    exact ⟨rfl, FnOk.pre (A' := [Leaf.av fun _ => (Leaf.val l : (List Task)), Leaf.av fun _ => (Leaf.val o : (List Int)), .agg (Dat.enc fun _ => (Dat.dec s : Set))]) (good_vc (Leaf.val l) (Leaf.val o) (Dat.dec s) hp) (.mk (Leaf.hle _ g0) (.mk (Leaf.hle _ g1) (.mk (Dat.hle _ g2) (trivial))))⟩
  · cases h

end Go.Proofs.Ytabchkekhpmpiaa
