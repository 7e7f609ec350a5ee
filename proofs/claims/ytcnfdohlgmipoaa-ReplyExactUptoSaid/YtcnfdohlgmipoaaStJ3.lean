/- slices.SortStableFunc of jobs: insertion. -/
import Derived.Test.YtcnfdohlgmipoaaStJP
import Derived.Test.YtcnfdohlgmipoaaCmp
set_option linter.all false
namespace Go.Proofs.Ytcnfdohlgmipoaa
open Go Go.Abs

noncomputable def cCj : FuncId → Con := fun f => match f with
  | 30 => pureCon (detPC cmpI_D)
  | _ => fun _ _ _ => Bad 1001
theorem cCj_ok : ConOk Try.prog cCj := fun f A H K h => by
  unfold cCj at h
  split at h
  · exact ⟨⟨Try.f30, Try.func30, by kernel_rfl, by kernel_rfl⟩, pureCon_ok cmpI_ok h⟩
  · cases h
def cmpJ_R (r : Th (Int)) : AV := .i .i64 fun _ => (r ())
def cmpJ_S (x : job) (y : job) : Int := cmpV x.done.came y.done.came
def cmpJ_D : Det := fun A => match A with
  | [.agg x, .agg y] => some (fun _ => Dat.ok job x ∧ Dat.ok job y, cmpJ_R fun _ => cmpJ_S (Dat.dec x) (Dat.dec y))
  | _ => none
set_option maxRecDepth 100000 in
set_option maxHeartbeats 4000000 in
theorem cmpJ_vc (x : job) (y : job) : FnOk Try.prog 29 [.agg (Dat.enc fun _ => x), .agg (Dat.enc fun _ => y)] [] (outA (cmpJ_R fun _ => cmpJ_S x y) []) := by
  refine fn_ok envOk zl cCj_ok noDraws_ok (keep := [0, 1, 2, 3, 4]) Try.func29 rfl ?_
  cbv
  repeat' first | (refine Stp.mk ?_; cbv) | (refine Gen.mk fun r hr => ?_; (try simp only [Dat.ok, Dat.dec, Leaf.ok, Leaf.val, Span.eta, Set.eta, Task.eta, Done.eta, job.eta, Late.eta, val_sl, val_nil] at hr); cbv) | exact trivial | rfl | refine Both.mk ?_ ?_ | (refine Imp.mk fun h => ?_; (try dsimp only at h); (try simp only [nc, Int.toNat_natCast, ne_eq, zz] at h); (try simp only [nc] at h)) | refine Ob.mk ?_ ?_ | refine Chk.mk (by kernel_rfl) ?_ | refine Eq'.mk ?_ | (refine AllN.mk fun i hi => ?_; cbv) | (refine AllC.mk fun c hc hcm => ?_; (try dsimp only at hc); cbv) | (refine AllS.mk fun r hr => ?_; (try simp only [Dat.ok, Dat.dec, Leaf.ok, Leaf.val, Span.eta, Set.eta, Task.eta, Done.eta, job.eta, Late.eta, val_sl] at hr); cbv)
  all_goals ((try dsimp only at *); (try simp only [nc, Int.toNat_natCast, ne_eq, zz] at *); (try simp only [nc] at *))
  all_goals first
    | exact ⟨trivial, trivial⟩
    | fail
theorem cmpJ_ok : PcOk Try.prog 29 (detPC cmpJ_D) := det_okA fun A p r h hp0 => by
  unfold cmpJ_D at h
  split at h
  · rename_i x y
    cases h
    obtain ⟨g0, g1⟩ := hp0
    exact ⟨rfl, FnOk.pre (A' := [.agg (Dat.enc fun _ => (Dat.dec x : job)), .agg (Dat.enc fun _ => (Dat.dec y : job))]) (cmpJ_vc (Dat.dec x) (Dat.dec y)) (.mk (Dat.hle _ g0) (.mk (Dat.hle _ g1) (trivial)))⟩
  · cases h
def segS (l : List job) (a b : Nat) : List job := l.take a ++ sortS ((l.drop a).take (b - a)) ++ l.drop b
theorem segS_len {l : List job} {a b : Nat} (h1 : a ≤ b) (h2 : b ≤ l.length) : (segS l a b).length = l.length := by
  simp [segS, sortS_len]; omega
theorem sortS_one (x : job) : sortS [x] = [x] := rfl
theorem seg_cut (l : List job) (a b : Nat) (h : a ≤ b) : l.take a ++ (l.drop a).take (b - a) ++ l.drop b = l := by
  have e1 := List.take_append_drop (b - a) (l.drop a)
  rw [List.drop_drop, show a + (b - a) = b by omega] at e1
  rw [List.append_assoc, e1, List.take_append_drop]
theorem segS_few {l : List job} {a b : Nat} (h1 : a ≤ b) (h2 : b ≤ a + 1) : segS l a b = l := by
  have e : sortS ((l.drop a).take (b - a)) = (l.drop a).take (b - a) := by
    rcases (show b - a = 0 ∨ b - a = 1 by omega) with h | h
    · rw [h]; simp; rfl
    · rw [h]
      cases l.drop a with
      | nil => rfl
      | cons x r => exact sortS_one x
  unfold segS
  rw [e]
  exact seg_cut l a b h1
theorem swp_c {P Q : List job} {x y : job} {i p : Nat} (f : job → Int) (hp : P.length = p) (hi : i < (P ++ [y] ++ [x] ++ Q).length) :
    (bif decide (i = p) then f ((P ++ [y] ++ [x] ++ Q).getD (p + 1) Dat.d0) else bif decide (i = p + 1) then f ((P ++ [y] ++ [x] ++ Q).getD p Dat.d0) else f ((P ++ [y] ++ [x] ++ Q).getD i Dat.d0)) = f ((P ++ [x] ++ [y] ++ Q).getD i Dat.d0) := by
  subst hp
  have g1 : ∀ (u v : job), (P ++ [u] ++ [v] ++ Q).getD P.length Dat.d0 = u := fun u v => by simp [List.getD_eq_getElem?_getD, List.getElem?_append]
  have g2 : ∀ (u v : job), (P ++ [u] ++ [v] ++ Q).getD (P.length + 1) Dat.d0 = v := fun u v => by simp [List.getD_eq_getElem?_getD, List.getElem?_append]
  by_cases h1 : i = P.length
  · subst h1
    rw [decide_eq_true rfl, g2 y x, g1 x y]; rfl
  · rw [decide_eq_false h1]
    by_cases h2 : i = P.length + 1
    · subst h2
      rw [decide_eq_true rfl, g1 y x, g2 x y]; rfl
    · rw [decide_eq_false h2]
      have : (P ++ [y] ++ [x] ++ Q).getD i Dat.d0 = (P ++ [x] ++ [y] ++ Q).getD i Dat.d0 := by
        simp only [List.append_assoc, List.getD_eq_getElem?_getD, List.getElem?_append, List.length_cons, List.length_nil]
        repeat' split
        all_goals first
          | rfl
          | omega
          | (congr 2; omega)
      rw [this]; rfl
theorem at_end {P Q : List job} {x : job} {p : Nat} (hp : P.length = p) : (P ++ [x] ++ Q).getD p Dat.d0 = x := by
  subst hp
  simp [List.getD_eq_getElem?_getD, List.getElem?_append]
theorem ends {S : List job} (h : 0 < S.length) : ∃ S' y, S = S' ++ [y] := ⟨S.dropLast, S.getLast (by rintro rfl; cases h), (List.dropLast_concat_getLast _).symm⟩
theorem cmpV_neg {a b : Int} : cmpV a b < 0 ↔ a < b := by
  unfold cmpV
  split
  · omega
  · split <;> omega
def dIj : FuncId → Option Dt := fun f => match f with
  | 29 => some (.c cmpJ_D)
  | _ => none
theorem dIj_ok : DetOk Try.prog dIj := fun f d h => by
  unfold dIj at h
  split at h
  · cases h; exact ⟨⟨Try.f29, Try.func29, by kernel_rfl, by kernel_rfl⟩, cmpJ_ok⟩
  · cases h
def insJ_P (l : List job) (a : Int) (b : Int) : Prop := 0 ≤ a ∧ a ≤ b ∧ b ≤ l.length ∧ l.length ≤ 1048576
def insJ_F (l : List job) (a : Int) (b : Int) : List job := segS l a.toNat b.toNat
def insJ_S : OwnS job := { pre := fun r l => match r with | [.i .i64 a, .i .i64 b, .fn 29 []] => insJ_P l (a ()) (b ()) | _ => False, fin := fun r l => match r with | [.i .i64 a, .i .i64 b, .fn 29 []] => insJ_F l (a ()) (b ()) | _ => l, res := none, kl := false }
noncomputable def insJ_K : Con := ownCon job 70 insJ_S
structure IoX (A B : Nat) where
  i : Nat
  h1 : A + 1 ≤ i
  h2 : i ≤ B ∨ i = A + 1
structure IiX (S : List job) (x : job) where
  S1 : List job
  S2 : List job
  hS : S = S1 ++ S2
  h2 : ∀ y ∈ S2, x.done.came < y.done.came
set_option maxRecDepth 100000 in
set_option maxHeartbeats 4000000 in
theorem insJ_vc (l : List job) (a : Int) (b : Int) (hp : insJ_P l a b) : FnOk Try.prog 52 [.own 0 fun _ => l.length, .i .i64 fun _ => a, .i .i64 fun _ => b, .fn 29 []] [vecO 70 fun _ => l] (outLe 1 (.tup []) [vecO 70 fun _ => insJ_F l a b] []) := by
  refine fn_ok envOk zl noCon_ok (draws_ok envOk zl dIj_ok mixed) (keep := [0, 1, 2, 3, 8, 9, 14, 34]) Try.func52 rfl ?_
  obtain ⟨h1, h2, h3, h4⟩ := hp
  obtain ⟨A, rfl⟩ := Int.eq_ofNat_of_zero_le h1
  obtain ⟨B, rfl⟩ := Int.eq_ofNat_of_zero_le (show 0 ≤ b by omega)
  have k2 : A ≤ B := by omega
  have k3 : B ≤ l.length := by omega
  have k4 : l.length ≤ 1048576 := h4
  cbv
  repeat' first | (show Stp _; exfalso; first | omega | (exact h ‹_›) | (exact absurd ‹_› h) | (exact Bool.false_ne_true (h.symm.trans (show _ = true by assumption)))) | (refine Stp.mk ?_; cbv) | (refine Gen.mk fun r hr => ?_; (try simp only [Dat.ok, Dat.dec, Leaf.ok, Leaf.val, Span.eta, Set.eta, Task.eta, Done.eta, job.eta, Late.eta, val_sl, val_nil] at hr); cbv) | exact trivial | rfl | refine Both.mk ?_ ?_ | (refine Imp.mk fun h => ?_; (try dsimp only at h); (try simp only [nc, Int.toNat_natCast, ne_eq, zz] at h); (try simp only [nc] at h)) | refine Ob.mk ?_ ?_ | refine Chk.mk (by kernel_rfl) ?_ | refine Eq'.mk ?_ | (refine AllN.mk fun i hi => ?_; cbv) | (refine AllC.mk fun c hc hcm => ?_; (try dsimp only at hc); cbv) | (refine AllS.mk fun r hr => ?_; (try simp only [Dat.ok, Dat.dec, Leaf.ok, Leaf.val, Span.eta, Set.eta, Task.eta, Done.eta, job.eta, Late.eta, val_sl] at hr); cbv)
  all_goals ((try dsimp only at *); (try simp only [nc, Int.toNat_natCast, ne_eq, zz] at *); (try simp only [nc] at *))
  all_goals first
    | omega
    | (unfold InR; omega)
    | skip
  refine LoopVC.frame [8, 9, 14, 34] (IoX A B) (fun x => [(8, .i .i64 fun _ => x.i)]) (fun x => [(0, vecO 70 fun _ => segS l A x.i)]) [] (fun x => B - x.i)
    ⟨A + 1, Nat.le_refl _, .inr rfl⟩ rfl (fun _ => rfl) ?_ ?_ fun ⟨n, hi1, hi2⟩ => ?_
  · cbv
    repeat' first | (refine Stp.mk ?_; cbv) | (refine Gen.mk fun r hr => ?_; (try simp only [Dat.ok, Dat.dec, Leaf.ok, Leaf.val, Span.eta, Set.eta, Task.eta, Done.eta, job.eta, Late.eta, val_sl, val_nil] at hr); cbv) | exact trivial | rfl | refine Both.mk ?_ ?_ | (refine Imp.mk fun h => ?_; (try dsimp only at h); (try simp only [nc, Int.toNat_natCast, ne_eq, zz] at h); (try simp only [nc] at h)) | refine Ob.mk ?_ ?_ | refine Chk.mk (by kernel_rfl) ?_ | refine Eq'.mk ?_ | (refine AllN.mk fun i hi => ?_; cbv) | (refine AllC.mk fun c hc hcm => ?_; (try dsimp only at hc); cbv) | (refine AllS.mk fun r hr => ?_; (try simp only [Dat.ok, Dat.dec, Leaf.ok, Leaf.val, Span.eta, Set.eta, Task.eta, Done.eta, job.eta, Late.eta, val_sl] at hr); cbv)
  · rw [segS_few (Nat.le_succ A) (Nat.le_refl _)]
    cbv
    repeat' first | (refine Stp.mk ?_; cbv) | (refine Gen.mk fun r hr => ?_; (try simp only [Dat.ok, Dat.dec, Leaf.ok, Leaf.val, Span.eta, Set.eta, Task.eta, Done.eta, job.eta, Late.eta, val_sl, val_nil] at hr); cbv) | exact trivial | rfl | refine Both.mk ?_ ?_ | (refine Imp.mk fun h => ?_; (try dsimp only at h); (try simp only [nc, Int.toNat_natCast, ne_eq, zz] at h); (try simp only [nc] at h)) | refine Ob.mk ?_ ?_ | refine Chk.mk (by kernel_rfl) ?_ | refine Eq'.mk ?_ | (refine AllN.mk fun i hi => ?_; cbv) | (refine AllC.mk fun c hc hcm => ?_; (try dsimp only at hc); cbv) | (refine AllS.mk fun r hr => ?_; (try simp only [Dat.ok, Dat.dec, Leaf.ok, Leaf.val, Span.eta, Set.eta, Task.eta, Done.eta, job.eta, Late.eta, val_sl] at hr); cbv)
  cbv
  repeat' first | (show Stp _; exfalso; first | omega | (exact h ‹_›) | (exact absurd ‹_› h) | (exact Bool.false_ne_true (h.symm.trans (show _ = true by assumption)))) | (refine Stp.mk ?_; cbv) | (refine Gen.mk fun r hr => ?_; (try simp only [Dat.ok, Dat.dec, Leaf.ok, Leaf.val, Span.eta, Set.eta, Task.eta, Done.eta, job.eta, Late.eta, val_sl, val_nil] at hr); cbv) | exact trivial | rfl | refine Both.mk ?_ ?_ | (refine Imp.mk fun h => ?_; (try dsimp only at h); (try simp only [nc, Int.toNat_natCast, ne_eq, zz] at h); (try simp only [nc] at h)) | refine Ob.mk ?_ ?_ | refine Chk.mk (by kernel_rfl) ?_ | refine Eq'.mk ?_ | (refine AllN.mk fun i hi => ?_; cbv) | (refine AllC.mk fun c hc hcm => ?_; (try dsimp only at hc); cbv) | (refine AllS.mk fun r hr => ?_; (try simp only [Dat.ok, Dat.dec, Leaf.ok, Leaf.val, Span.eta, Set.eta, Task.eta, Done.eta, job.eta, Late.eta, val_sl] at hr); cbv)
  all_goals ((try dsimp only at *); (try simp only [nc, Int.toNat_natCast, ne_eq, zz] at *); (try simp only [nc] at *))
  rotate_left
  all_goals try (
    have e : segS l A n = insJ_F l (A : Nat) (B : Nat) := by
      unfold insJ_F
      rw [Int.toNat_natCast, Int.toNat_natCast]
      rcases (show n = B ∨ (B ≤ A + 1 ∧ n = A + 1) by omega) with rfl | ⟨q, rfl⟩
      · rfl
      · rw [segS_few (Nat.le_succ A) (Nat.le_refl _), segS_few k2 q]
    rw [e]
    done)
  have hiB : n < B := by omega
  have hil : n < l.length := by omega
  generalize hx : l.getD n jd0 = x
  have hdr : l.drop n = x :: l.drop (n + 1) := by
    rw [← hx, List.getD_eq_getElem?_getD, List.getElem?_eq_getElem hil]
    exact List.drop_eq_getElem_cons hil
  have hsl : (sortS ((l.drop A).take (n - A))).length = n - A := by rw [sortS_len, List.length_take, List.length_drop]; omega
  have hst : segS l A n = l.take A ++ sortS ((l.drop A).take (n - A)) ++ [x] ++ ([] ++ l.drop (n + 1)) := by
    unfold segS
    rw [hdr]; simp
  have htA : (l.take A).length = A := by rw [List.length_take]; omega
  rw [hst]
  refine LoopVC.frame [9, 34] (IiX (sortS ((l.drop A).take (n - A))) x) (fun y => [(9, .i .i64 fun _ => (A : Int) + y.S1.length)]) (fun y => [(0, vecO 70 fun _ => (l.take A ++ y.S1) ++ [x] ++ (y.S2 ++ l.drop (n + 1)))]) [] (fun y => y.S1.length)
    ⟨sortS ((l.drop A).take (n - A)), [], (List.append_nil _).symm, fun y hy => by cases hy⟩ rfl (fun _ => rfl) ?_ ?_ fun ⟨S1, S2, hS, hlt⟩ => ?_
  · cbv
    repeat' first | (refine Stp.mk ?_; cbv) | (refine Gen.mk fun r hr => ?_; (try simp only [Dat.ok, Dat.dec, Leaf.ok, Leaf.val, Span.eta, Set.eta, Task.eta, Done.eta, job.eta, Late.eta, val_sl, val_nil] at hr); cbv) | exact trivial | rfl | refine Both.mk ?_ ?_ | (refine Imp.mk fun h => ?_; (try dsimp only at h); (try simp only [nc, Int.toNat_natCast, ne_eq, zz] at h); (try simp only [nc] at h)) | refine Ob.mk ?_ ?_ | refine Chk.mk (by kernel_rfl) ?_ | refine Eq'.mk ?_ | (refine AllN.mk fun i hi => ?_; cbv) | (refine AllC.mk fun c hc hcm => ?_; (try dsimp only at hc); cbv) | (refine AllS.mk fun r hr => ?_; (try simp only [Dat.ok, Dat.dec, Leaf.ok, Leaf.val, Span.eta, Set.eta, Task.eta, Done.eta, job.eta, Late.eta, val_sl] at hr); cbv)
    show (n : Int) = (A : Int) + ((sortS ((l.drop A).take (n - A))).length : Nat)
    rw [hsl]; omega
  · cbv
    repeat' first | (refine Stp.mk ?_; cbv) | (refine Gen.mk fun r hr => ?_; (try simp only [Dat.ok, Dat.dec, Leaf.ok, Leaf.val, Span.eta, Set.eta, Task.eta, Done.eta, job.eta, Late.eta, val_sl, val_nil] at hr); cbv) | exact trivial | rfl | refine Both.mk ?_ ?_ | (refine Imp.mk fun h => ?_; (try dsimp only at h); (try simp only [nc, Int.toNat_natCast, ne_eq, zz] at h); (try simp only [nc] at h)) | refine Ob.mk ?_ ?_ | refine Chk.mk (by kernel_rfl) ?_ | refine Eq'.mk ?_ | (refine AllN.mk fun i hi => ?_; cbv) | (refine AllC.mk fun c hc hcm => ?_; (try dsimp only at hc); cbv) | (refine AllS.mk fun r hr => ?_; (try simp only [Dat.ok, Dat.dec, Leaf.ok, Leaf.val, Span.eta, Set.eta, Task.eta, Done.eta, job.eta, Late.eta, val_sl] at hr); cbv)
  have hS12 : S1.length + S2.length = n - A := by rw [← hsl, hS, List.length_append]
  have hLl : (l.take A ++ S1 ++ [x] ++ (S2 ++ l.drop (n + 1))).length = l.length := by
    simp only [List.length_append, htA, List.length_drop, List.length_cons, List.length_nil]; omega
  have gx : (l.take A ++ S1 ++ [x] ++ (S2 ++ l.drop (n + 1))).getD (A + S1.length) Dat.d0 = x := at_end (by rw [List.length_append, htA])
  have hsrt := sortS_srt ((l.drop A).take (n - A))
  rw [hS] at hsrt
  have hs1 := (List.pairwise_append.1 hsrt).1
  have htk : (l.drop A).take (n + 1 - A) = (l.drop A).take (n - A) ++ [x] := by
    rw [show n + 1 - A = (n - A) + 1 by omega, List.take_add_one, List.getElem?_drop, show A + (n - A) = n by omega, List.getElem?_eq_getElem hil]
    rw [← hx, List.getD_eq_getElem?_getD, List.getElem?_eq_getElem hil]; rfl
  have hseg : (∀ y ∈ S1, y.done.came ≤ x.done.came) → l.take A ++ S1 ++ [x] ++ (S2 ++ l.drop (n + 1)) = segS l A (n + 1) := fun hy => by
    unfold segS
    rw [htk, sortS_put hS hy hlt]
    simp
  have e1 : ((A : Int) + (S1.length : Nat)).toNat = A + S1.length := by omega
  cbv
  repeat' first | (show Stp _; exfalso; first | omega | (exact h ‹_›) | (exact absurd ‹_› h) | (exact Bool.false_ne_true (h.symm.trans (show _ = true by assumption)))) | (refine Stp.mk ?_; cbv) | (refine Gen.mk fun r hr => ?_; (try simp only [Dat.ok, Dat.dec, Leaf.ok, Leaf.val, Span.eta, Set.eta, Task.eta, Done.eta, job.eta, Late.eta, val_sl, val_nil] at hr); cbv) | exact trivial | rfl | refine Both.mk ?_ ?_ | (refine Imp.mk fun h => ?_; (try dsimp only at h); (try simp only [nc, Int.toNat_natCast, ne_eq, zz] at h); (try simp only [nc] at h)) | refine Ob.mk ?_ ?_ | refine Chk.mk (by kernel_rfl) ?_ | refine Eq'.mk ?_ | (refine AllN.mk fun i hi => ?_; cbv) | (refine AllC.mk fun c hc hcm => ?_; (try dsimp only at hc); cbv) | (refine AllS.mk fun r hr => ?_; (try simp only [Dat.ok, Dat.dec, Leaf.ok, Leaf.val, Span.eta, Set.eta, Task.eta, Done.eta, job.eta, Late.eta, val_sl] at hr); cbv)
  all_goals ((try dsimp only at *); (try simp only [nc, Int.toNat_natCast, ne_eq, zz] at *); (try simp only [nc] at *))
  all_goals try rw [e1]
  all_goals first
    | omega
    | (unfold InR; omega)
    | exact ⟨by omega, by omega⟩
    | (rw [hLl]; omega)
    | exact ⟨⟨trivial, trivial, trivial, trivial, trivial, trivial⟩, ⟨trivial, trivial, trivial, trivial, trivial, trivial⟩⟩
    | skip
  · obtain ⟨S', y, rfl⟩ := ends (S := S1) (by omega)
    have hl1 : (S' ++ [y]).length = S'.length + 1 := by simp
    have e2 : ((A : Int) + ((S' ++ [y]).length : Nat) - 1).toNat = A + S'.length := by omega
    have hL : l.take A ++ (S' ++ [y]) ++ [x] ++ (S2 ++ l.drop (n + 1)) = (l.take A ++ S') ++ [y] ++ [x] ++ (S2 ++ l.drop (n + 1)) := by simp
    have hR : (l.take A ++ S') ++ [x] ++ ((y :: S2) ++ l.drop (n + 1)) = (l.take A ++ S') ++ [x] ++ [y] ++ (S2 ++ l.drop (n + 1)) := by simp
    have gy : (l.take A ++ (S' ++ [y]) ++ [x] ++ (S2 ++ l.drop (n + 1))).getD (A + S'.length) Dat.d0 = y := by
      have e : l.take A ++ (S' ++ [y]) ++ [x] ++ (S2 ++ l.drop (n + 1)) = (l.take A ++ S') ++ [y] ++ ([x] ++ (S2 ++ l.drop (n + 1))) := by simp
      rw [e]
      exact at_end (by rw [List.length_append, htA])
    have hc : cmpV ((l.take A ++ (S' ++ [y]) ++ [x] ++ (S2 ++ l.drop (n + 1))).getD ((A : Int) + ((S' ++ [y]).length : Nat)).toNat Dat.d0).done.came ((l.take A ++ (S' ++ [y]) ++ [x] ++ (S2 ++ l.drop (n + 1))).getD ((A : Int) + ((S' ++ [y]).length : Nat) - 1).toNat Dat.d0).done.came < 0 := h
    rw [e1, e2, gx, gy] at hc
    have hxy := cmpV_neg.1 hc
    refine ⟨⟨S', y :: S2, by rw [hS]; simp, fun z hz => by rcases List.mem_cons.1 hz with rfl | hz; exact hxy; exact hlt z hz⟩, ?_, ?_, rfl, by (try dsimp only); omega⟩
    · cbv
      repeat' first | (refine Stp.mk ?_; cbv) | (refine Gen.mk fun r hr => ?_; (try simp only [Dat.ok, Dat.dec, Leaf.ok, Leaf.val, Span.eta, Set.eta, Task.eta, Done.eta, job.eta, Late.eta, val_sl, val_nil] at hr); cbv) | exact trivial | rfl | refine Both.mk ?_ ?_ | (refine Imp.mk fun h => ?_; (try dsimp only at h); (try simp only [nc, Int.toNat_natCast, ne_eq, zz] at h); (try simp only [nc] at h)) | refine Ob.mk ?_ ?_ | refine Chk.mk (by kernel_rfl) ?_ | refine Eq'.mk ?_ | (refine AllN.mk fun i hi => ?_; cbv) | (refine AllC.mk fun c hc hcm => ?_; (try dsimp only at hc); cbv) | (refine AllS.mk fun r hr => ?_; (try simp only [Dat.ok, Dat.dec, Leaf.ok, Leaf.val, Span.eta, Set.eta, Task.eta, Done.eta, job.eta, Late.eta, val_sl] at hr); cbv)
      show (A : Int) + ((S' ++ [y]).length : Nat) - 1 = (A : Int) + (S'.length : Nat)
      omega
    · cbv
      repeat' first | (refine Stp.mk ?_; cbv) | (refine Gen.mk fun r hr => ?_; (try simp only [Dat.ok, Dat.dec, Leaf.ok, Leaf.val, Span.eta, Set.eta, Task.eta, Done.eta, job.eta, Late.eta, val_sl, val_nil] at hr); cbv) | exact trivial | rfl | refine Both.mk ?_ ?_ | (refine Imp.mk fun h => ?_; (try dsimp only at h); (try simp only [nc, Int.toNat_natCast, ne_eq, zz] at h); (try simp only [nc] at h)) | refine Ob.mk ?_ ?_ | refine Chk.mk (by kernel_rfl) ?_ | refine Eq'.mk ?_ | (refine AllN.mk fun i hi => ?_; cbv) | (refine AllC.mk fun c hc hcm => ?_; (try dsimp only at hc); cbv) | (refine AllS.mk fun r hr => ?_; (try simp only [Dat.ok, Dat.dec, Leaf.ok, Leaf.val, Span.eta, Set.eta, Task.eta, Done.eta, job.eta, Late.eta, val_sl] at hr); cbv)
      all_goals ((try dsimp only at *); (try simp only [nc, Int.toNat_natCast, ne_eq, zz] at *); (try simp only [nc] at *))
      all_goals first
        | (show _ = (((l.take A ++ S') ++ [x] ++ ((y :: S2) ++ l.drop (n + 1)))).length
           rw [hR, hL]; simp; done)
        | (have hi2 : i < ((l.take A ++ S') ++ [y] ++ [x] ++ (S2 ++ l.drop (n + 1))).length := by rw [← hL]; exact hi
           have sc := fun f => @swp_c (l.take A ++ S') (S2 ++ l.drop (n + 1)) x y i (A + S'.length) f (by rw [List.length_append, htA]) hi2
           try rw [e1]
           rw [e2, hl1, ← Nat.add_assoc, hL]
           first
             | exact (sc fun x => x.done.task).trans (by rw [← hR])
             | exact (sc fun x => x.done.job).trans (by rw [← hR])
             | exact (sc fun x => x.done.came).trans (by rw [← hR])
             | exact (sc fun x => x.done.at_).trans (by rw [← hR])
             | exact (sc fun x => x.due).trans (by rw [← hR])
             | exact (sc fun x => x.left).trans (by rw [← hR]))
        | fail
  · obtain ⟨S', y, rfl⟩ := ends (S := S1) (by omega)
    have hl1 : (S' ++ [y]).length = S'.length + 1 := by simp
    have e2 : ((A : Int) + ((S' ++ [y]).length : Nat) - 1).toNat = A + S'.length := by omega
    have gy : (l.take A ++ (S' ++ [y]) ++ [x] ++ (S2 ++ l.drop (n + 1))).getD (A + S'.length) Dat.d0 = y := by
      have e : l.take A ++ (S' ++ [y]) ++ [x] ++ (S2 ++ l.drop (n + 1)) = (l.take A ++ S') ++ [y] ++ ([x] ++ (S2 ++ l.drop (n + 1))) := by simp
      rw [e]
      exact at_end (by rw [List.length_append, htA])
    have hc : ¬ cmpV ((l.take A ++ (S' ++ [y]) ++ [x] ++ (S2 ++ l.drop (n + 1))).getD ((A : Int) + ((S' ++ [y]).length : Nat)).toNat Dat.d0).done.came ((l.take A ++ (S' ++ [y]) ++ [x] ++ (S2 ++ l.drop (n + 1))).getD ((A : Int) + ((S' ++ [y]).length : Nat) - 1).toNat Dat.d0).done.came < 0 := Int.not_lt.2 h
    rw [e1, e2, gx, gy] at hc
    have hxy : ¬ x.done.came < y.done.came := fun q => hc (cmpV_neg.2 q)
    rw [hseg fun z hz => by
      rcases List.mem_append.1 hz with hz | hz
      · have := (List.pairwise_append.1 hs1).2.2 z hz y (by simp)
        omega
      · obtain rfl := List.mem_singleton.1 hz
        omega]
    refine ⟨⟨n + 1, by omega, by omega⟩, ?_, ?_, rfl, by (try dsimp only); omega⟩
    iterate 2
      · cbv
        repeat' first | (refine Stp.mk ?_; cbv) | (refine Gen.mk fun r hr => ?_; (try simp only [Dat.ok, Dat.dec, Leaf.ok, Leaf.val, Span.eta, Set.eta, Task.eta, Done.eta, job.eta, Late.eta, val_sl, val_nil] at hr); cbv) | exact trivial | rfl | refine Both.mk ?_ ?_ | (refine Imp.mk fun h => ?_; (try dsimp only at h); (try simp only [nc, Int.toNat_natCast, ne_eq, zz] at h); (try simp only [nc] at h)) | refine Ob.mk ?_ ?_ | refine Chk.mk (by kernel_rfl) ?_ | refine Eq'.mk ?_ | (refine AllN.mk fun i hi => ?_; cbv) | (refine AllC.mk fun c hc hcm => ?_; (try dsimp only at hc); cbv) | (refine AllS.mk fun r hr => ?_; (try simp only [Dat.ok, Dat.dec, Leaf.ok, Leaf.val, Span.eta, Set.eta, Task.eta, Done.eta, job.eta, Late.eta, val_sl] at hr); cbv)
  · obtain rfl : S1 = [] := List.eq_nil_of_length_eq_zero (by omega)
    rw [hseg fun z hz => by cases hz]
    refine ⟨⟨n + 1, by omega, by omega⟩, ?_, ?_, rfl, by (try dsimp only); omega⟩
    iterate 2
      · cbv
        repeat' first | (refine Stp.mk ?_; cbv) | (refine Gen.mk fun r hr => ?_; (try simp only [Dat.ok, Dat.dec, Leaf.ok, Leaf.val, Span.eta, Set.eta, Task.eta, Done.eta, job.eta, Late.eta, val_sl, val_nil] at hr); cbv) | exact trivial | rfl | refine Both.mk ?_ ?_ | (refine Imp.mk fun h => ?_; (try dsimp only at h); (try simp only [nc, Int.toNat_natCast, ne_eq, zz] at h); (try simp only [nc] at h)) | refine Ob.mk ?_ ?_ | refine Chk.mk (by kernel_rfl) ?_ | refine Eq'.mk ?_ | (refine AllN.mk fun i hi => ?_; cbv) | (refine AllC.mk fun c hc hcm => ?_; (try dsimp only at hc); cbv) | (refine AllS.mk fun r hr => ?_; (try simp only [Dat.ok, Dat.dec, Leaf.ok, Leaf.val, Span.eta, Set.eta, Task.eta, Done.eta, job.eta, Late.eta, val_sl] at hr); cbv)
theorem insJ_ok {A : List AV} {H : Hp} {K : Kont} (h : insJ_K A H K) : FnOk Try.prog 52 A H K := ownCon_ok (fun _ _ h => by cases h) (fun rest d _ hp => by
  have hp : (match (generalizing := false) rest with | [.i .i64 a, .i .i64 b, .fn 29 []] => insJ_P d (a ()) (b ()) | _ => False) := hp
  split at hp
  · rename_i a b _ _; exact insJ_vc d (a ()) (b ()) hp
  · cases hp) h
theorem insJ_okO : DtOk Try.prog 52 (.o (ownDet job 70 insJ_S)) := ownDet_ok (fun _ _ h => by cases h) (fun rest d _ hp => by
  have hp : (match (generalizing := false) rest with | [.i .i64 a, .i .i64 b, .fn 29 []] => insJ_P d (a ()) (b ()) | _ => False) := hp
  split at hp
  · rename_i a b _ _; exact insJ_vc d (a ()) (b ()) hp
  · cases hp)

end Go.Proofs.Ytcnfdohlgmipoaa
