/- The middle of what several measure, walked. -/
import Derived.Test.YtpofgnocliaahaaSortI
set_option linter.all false
namespace Go.Proofs.Ytpofgnocliaahaa
open Go Go.Abs

def wideI (n : Int) : Bool := decide (n < -1099511627776) || decide (1099511627776 < n)
def midV (l : List Int) (f : Int) : Int × Int × Int :=
  if 64 < l.length then (0, 0, 2) else if f < 0 ∨ 20 < f then (0, 0, 1) else if l.any wideI = true then (0, 0, 4) else if (l.length : Int) ≤ 2 * f then (0, 0, 7)
  else ((sortL l).getD f.toNat Dat.d0 + ((sortL l).getD ((l.length : Int) - f - 1).toNat Dat.d0 - (sortL l).getD f.toNat Dat.d0).tdiv 2, (sortL l).getD ((l.length : Int) - f - 1).toNat Dat.d0 - (sortL l).getD f.toNat Dat.d0, 0)
def clInt_R (r : Th ((List Int))) : AV := .own 0 fun _ => (r ()).length
def clInt_H (r : Th ((List Int))) : Hp := [vecO 3 fun _ => (r ())]
def clInt_P (l : (List Int)) : Prop := l.length ≤ 1099511627776
def clInt_C : PC := fun A K => match A with
  | [l] => Ob (fun _ => Leaf.ok (List Int) l ∧ clInt_P (Leaf.val l)) (Gen (α := (List Int)) (fun _ => (Leaf.val l)) fun r => K (clInt_R fun _ => r) (clInt_H fun _ => r))
  | _ => Bad 1002
set_option maxRecDepth 100000 in
set_option maxHeartbeats 4000000 in
theorem clInt_vc (l : (List Int)) (hp : clInt_P l) : FnOk Try.prog 12 [Leaf.av fun _ => l] [] (outA (clInt_R fun _ => l) (clInt_H fun _ => l)) := by
  refine fn_ok envOk zl noCon_ok noDraws_ok (keep := [0, 2, 4]) Try.func12 rfl ?_
  have hp' : l.length ≤ 1099511627776 := hp
  cbv
  repeat' first | (refine Stp.mk ?_; cbv) | (refine Gen.mk fun r hr => ?_; (try simp only [Dat.ok, Dat.dec, Leaf.ok, Leaf.val, val_sl, val_nil] at hr); cbv) | exact trivial | rfl | refine Both.mk ?_ ?_ | (refine Imp.mk fun h => ?_; (try dsimp only at h); (try simp only [nc, Int.toNat_natCast, Bool.not_eq_true', Bool.not_eq_false', decide_eq_true_eq, decide_eq_false_iff_not, beq_iff_eq, beq_eq_false_iff_ne, ba_inj, bne_iff_ne, ne_eq, Bool.and_eq_true, Bool.or_eq_true, Bool.and_eq_false_iff, Bool.or_eq_false_iff, Int.not_le, Int.not_lt, Nat.not_le, Nat.not_lt] at h); (try simp only [nc] at h)) | refine Ob.mk ?_ ?_ | refine Chk.mk (by kernel_rfl) ?_ | refine Eq'.mk ?_ | (refine AllN.mk fun i hi => ?_; cbv) | (refine AllC.mk fun c hc hcm => ?_; (try dsimp only at hc); cbv) | (refine AllS.mk fun r hr => ?_; (try simp only [Dat.ok, Dat.dec, Leaf.ok, Leaf.val, val_sl] at hr); cbv)
  all_goals ((try dsimp only at *); (try simp only [nc, Int.toNat_natCast, Bool.not_eq_true', Bool.not_eq_false', decide_eq_true_eq, decide_eq_false_iff_not, beq_iff_eq, beq_eq_false_iff_ne, ba_inj, bne_iff_ne, ne_eq, Bool.and_eq_true, Bool.or_eq_true, Bool.and_eq_false_iff, Bool.or_eq_false_iff, Int.not_le, Int.not_lt, Nat.not_le, Nat.not_lt] at *); (try simp only [nc] at *))
  all_goals first
    | omega
    | (exact ⟨Nat.le_refl _, trivial, by omega, by omega⟩)
    | (simp only [Nat.zero_add, Nat.sub_zero, Nat.not_lt_zero, decide_false, cond_false]; done)
    | (simp_all; done)
    | fail
theorem clInt_ok : PcOk Try.prog 12 (clInt_C) := fun A K h => by
  unfold clInt_C at h
  split at h
  · rename_i l
    cases h with
    | mk h1 h2 =>
      obtain ⟨g0, hp⟩ := h1
      refine FnOk.pre ?_ (A' := [Leaf.av fun _ => (Leaf.val l : (List Int))]) (.mk (Leaf.hle _ g0) (trivial))
      exact FnOk.out (K := fun r H _ => K r H) (clInt_vc (Leaf.val l) hp) rfl h2.out
  · cases h
def clStr_R (r : Th ((List ByteArray))) : AV := .own 0 fun _ => (r ()).length
def clStr_H (r : Th ((List ByteArray))) : Hp := [vecO 9 fun _ => (r ())]
def clStr_P (l : (List ByteArray)) : Prop := l.length ≤ 1099511627776
def clStr_C : PC := fun A K => match A with
  | [l] => Ob (fun _ => Leaf.ok (List ByteArray) l ∧ clStr_P (Leaf.val l)) (Gen (α := (List ByteArray)) (fun _ => (Leaf.val l)) fun r => K (clStr_R fun _ => r) (clStr_H fun _ => r))
  | _ => Bad 1002
set_option maxRecDepth 100000 in
set_option maxHeartbeats 4000000 in
theorem clStr_vc (l : (List ByteArray)) (hp : clStr_P l) : FnOk Try.prog 10 [Leaf.av fun _ => l] [] (outA (clStr_R fun _ => l) (clStr_H fun _ => l)) := by
  refine fn_ok envOk zl noCon_ok noDraws_ok (keep := [0, 2, 4]) Try.func10 rfl ?_
  have hp' : l.length ≤ 1099511627776 := hp
  cbv
  repeat' first | (refine Stp.mk ?_; cbv) | (refine Gen.mk fun r hr => ?_; (try simp only [Dat.ok, Dat.dec, Leaf.ok, Leaf.val, val_sl, val_nil] at hr); cbv) | exact trivial | rfl | refine Both.mk ?_ ?_ | (refine Imp.mk fun h => ?_; (try dsimp only at h); (try simp only [nc, Int.toNat_natCast, Bool.not_eq_true', Bool.not_eq_false', decide_eq_true_eq, decide_eq_false_iff_not, beq_iff_eq, beq_eq_false_iff_ne, ba_inj, bne_iff_ne, ne_eq, Bool.and_eq_true, Bool.or_eq_true, Bool.and_eq_false_iff, Bool.or_eq_false_iff, Int.not_le, Int.not_lt, Nat.not_le, Nat.not_lt] at h); (try simp only [nc] at h)) | refine Ob.mk ?_ ?_ | refine Chk.mk (by kernel_rfl) ?_ | refine Eq'.mk ?_ | (refine AllN.mk fun i hi => ?_; cbv) | (refine AllC.mk fun c hc hcm => ?_; (try dsimp only at hc); cbv) | (refine AllS.mk fun r hr => ?_; (try simp only [Dat.ok, Dat.dec, Leaf.ok, Leaf.val, val_sl] at hr); cbv)
  all_goals ((try dsimp only at *); (try simp only [nc, Int.toNat_natCast, Bool.not_eq_true', Bool.not_eq_false', decide_eq_true_eq, decide_eq_false_iff_not, beq_iff_eq, beq_eq_false_iff_ne, ba_inj, bne_iff_ne, ne_eq, Bool.and_eq_true, Bool.or_eq_true, Bool.and_eq_false_iff, Bool.or_eq_false_iff, Int.not_le, Int.not_lt, Nat.not_le, Nat.not_lt] at *); (try simp only [nc] at *))
  all_goals first
    | omega
    | (exact ⟨Nat.le_refl _, trivial, by omega, by omega⟩)
    | (simp only [Nat.zero_add, Nat.sub_zero, Nat.not_lt_zero, decide_false, cond_false]; done)
    | (simp_all; done)
    | fail
theorem clStr_ok : PcOk Try.prog 10 (clStr_C) := fun A K h => by
  unfold clStr_C at h
  split at h
  · rename_i l
    cases h with
    | mk h1 h2 =>
      obtain ⟨g0, hp⟩ := h1
      refine FnOk.pre ?_ (A' := [Leaf.av fun _ => (Leaf.val l : (List ByteArray))]) (.mk (Leaf.hle _ g0) (trivial))
      exact FnOk.out (K := fun r H _ => K r H) (clStr_vc (Leaf.val l) hp) rfl h2.out
  · cases h
theorem wide_not {n : Int} (h1 : -1099511627776 ≤ n) (h2 : n ≤ 1099511627776) : wideI n = false := by simp [wideI]; omega
theorem wide_of {n : Int} (h : wideI n = false) : -1099511627776 ≤ n ∧ n ≤ 1099511627776 := by simp [wideI] at h; omega
theorem any_take {l : List Int} {k : Nat} (hk : k < l.length) (h : (l.take k).any wideI = false) (h2 : wideI (l.getD k Dat.d0) = false) : (l.take (k + 1)).any wideI = false := by
  rw [List.take_add_one, List.getElem?_eq_getElem hk, List.any_append, h]
  rw [List.getD_eq_getElem?_getD, List.getElem?_eq_getElem hk] at h2
  simpa using h2
theorem any_at {l : List Int} {k : Nat} (hk : k < l.length) (h2 : wideI (l.getD k Dat.d0) = true) : l.any wideI = true := by
  rw [List.getD_eq_getElem?_getD, List.getElem?_eq_getElem hk] at h2
  exact List.any_eq_true.2 ⟨_, List.getElem_mem hk, h2⟩
theorem sortL_len (l : List Int) : (sortL l).length = l.length := List.length_mergeSort _
theorem sortL_bd {l : List Int} (h : l.any wideI = false) {i : Nat} (hi : i < l.length) : -1099511627776 ≤ (sortL l).getD i Dat.d0 ∧ (sortL l).getD i Dat.d0 ≤ 1099511627776 := by
  have hi2 : i < (sortL l).length := by rw [sortL_len]; exact hi
  rw [List.getD_eq_getElem?_getD, List.getElem?_eq_getElem hi2]
  have hm : (sortL l)[i] ∈ l := (List.mergeSort_perm l _).mem_iff.1 (List.getElem_mem hi2)
  exact wide_of (by simpa using List.any_eq_false.1 h _ hm)
theorem tdiv2_bd {x B : Int} (h1 : -B ≤ x) (h2 : x ≤ B) : -B ≤ x.tdiv 2 ∧ x.tdiv 2 ≤ B := by
  rcases Int.le_total 0 x with h | h
  · rw [Int.tdiv_eq_ediv_of_nonneg h]; omega
  · have e : x.tdiv 2 = -((-x).tdiv 2) := by rw [Int.neg_tdiv]; omega
    rw [e, Int.tdiv_eq_ediv_of_nonneg (by omega)]; omega
structure MdX (l : List Int) where
  k : Nat
  hk : k ≤ l.length
  ha : (l.take k).any wideI = false
noncomputable def cMd0 : FuncId → Con := fun f => match f with
  | 20 => inlCon E noCon noDraws [0, 2] Try.f20
  | _ => fun _ _ _ => Bad 1001
theorem cMd0_ok : ConOk Try.prog cMd0 := fun f A H K h => by
  unfold cMd0 at h
  split at h
  · exact ⟨⟨Try.f20, Try.func20, by kernel_rfl, by kernel_rfl⟩, inl_ok envOk zl noCon_ok noDraws_ok Try.func20 h⟩
  · cases h
noncomputable def cMd1 : FuncId → Con := fun f => match f with
  | 23 => inlCon E cMd0 noDraws [0, 1, 4, 5, 7, 8, 9, 16] Try.f23
  | _ => fun _ _ _ => Bad 1001
theorem cMd1_ok : ConOk Try.prog cMd1 := fun f A H K h => by
  unfold cMd1 at h
  split at h
  · exact ⟨⟨Try.f23, Try.func23, by kernel_rfl, by kernel_rfl⟩, inl_ok envOk zl cMd0_ok noDraws_ok Try.func23 h⟩
  · cases h
noncomputable def cMd2 : FuncId → Con := fun f => match f with
  | 21 => sortI_K
  | 12 => pureCon clInt_C
  | 19 => inlCon E cMd1 noDraws [0, 1, 4] Try.f19
  | _ => fun _ _ _ => Bad 1001
theorem cMd2_ok : ConOk Try.prog cMd2 := fun f A H K h => by
  unfold cMd2 at h
  split at h
  · exact ⟨⟨Try.f21, Try.func21, by kernel_rfl, by kernel_rfl⟩, sortI_ok h⟩
  · exact ⟨⟨Try.f12, Try.func12, by kernel_rfl, by kernel_rfl⟩, pureCon_ok clInt_ok h⟩
  · exact ⟨⟨Try.f19, Try.func19, by kernel_rfl, by kernel_rfl⟩, inl_ok envOk zl cMd1_ok noDraws_ok Try.func19 h⟩
  · cases h
def dMd : FuncId → Option Dt := fun f => match f with
  | _ => none
theorem dMd_ok : DetOk Try.prog dMd := fun f d h => by
  unfold dMd at h
  split at h
  · cases h
def mid_R (r : Th (Int × Int × Int)) : AV := .tup [.i .i64 fun _ => (r ()).1, .i .i64 fun _ => (r ()).2.1, .i .i64 fun _ => (r ()).2.2]
def mid_P (l : (List Int)) (faults : Int) : Prop := l.length ≤ 1099511627776
def mid_D : Det := fun A => match A with
  | [l, .i .i64 faults] => some (fun _ => Leaf.ok (List Int) l ∧ mid_P (Leaf.val l) (faults ()), mid_R fun _ => midV (Leaf.val l) (faults ()))
  | _ => none
set_option maxRecDepth 100000 in
set_option maxHeartbeats 4000000 in
theorem mid_vc (l : (List Int)) (faults : Int) (hp : mid_P l faults) : FnOk Try.prog 11 [Leaf.av fun _ => l, .i .i64 fun _ => faults] [] (outA (mid_R fun _ => midV l faults) []) := by
  refine fn_ok envOk zl cMd2_ok (draws_ok envOk zl dMd_ok mixed) (keep := [0, 1, 4, 5, 6, 7, 8, 11, 17, 19, 24]) Try.func11 rfl ?_
  have hp' : l.length ≤ 1099511627776 := hp
  have fin : ∀ (a b c : Int) H kl, midV l faults = (a, b, c) → outA (mid_R fun _ => midV l faults) [] (.tup [.i .i64 fun _ => a, .i .i64 fun _ => b, .i .i64 fun _ => c]) H kl := fun a b c H kl h => by
    rw [h]
    cbv
    repeat' first | (refine Stp.mk ?_; cbv) | (refine Gen.mk fun r hr => ?_; (try simp only [Dat.ok, Dat.dec, Leaf.ok, Leaf.val, val_sl, val_nil] at hr); cbv) | exact trivial | rfl | refine Both.mk ?_ ?_ | (refine Imp.mk fun h => ?_; (try dsimp only at h); (try simp only [nc, Int.toNat_natCast, Bool.not_eq_true', Bool.not_eq_false', decide_eq_true_eq, decide_eq_false_iff_not, beq_iff_eq, beq_eq_false_iff_ne, ba_inj, bne_iff_ne, ne_eq, Bool.and_eq_true, Bool.or_eq_true, Bool.and_eq_false_iff, Bool.or_eq_false_iff, Int.not_le, Int.not_lt, Nat.not_le, Nat.not_lt] at h); (try simp only [nc] at h)) | refine Ob.mk ?_ ?_ | refine Chk.mk (by kernel_rfl) ?_ | refine Eq'.mk ?_ | (refine AllN.mk fun i hi => ?_; cbv) | (refine AllC.mk fun c hc hcm => ?_; (try dsimp only at hc); cbv) | (refine AllS.mk fun r hr => ?_; (try simp only [Dat.ok, Dat.dec, Leaf.ok, Leaf.val, val_sl] at hr); cbv)
  generalize outA (mid_R fun _ => midV l faults) [] = K at fin ⊢
  cbv
  repeat' first | (show Stp _; exfalso; first | omega | (exact h ‹_›) | (exact absurd ‹_› h) | (exact Bool.false_ne_true (h.symm.trans (show _ = true by assumption)))) | (refine Stp.mk ?_; cbv) | (refine Gen.mk fun r hr => ?_; (try simp only [Dat.ok, Dat.dec, Leaf.ok, Leaf.val, val_sl, val_nil] at hr); cbv) | exact trivial | rfl | refine Both.mk ?_ ?_ | (refine Imp.mk fun h => ?_; (try dsimp only at h); (try simp only [nc, Int.toNat_natCast, Bool.not_eq_true', Bool.not_eq_false', decide_eq_true_eq, decide_eq_false_iff_not, beq_iff_eq, beq_eq_false_iff_ne, ba_inj, bne_iff_ne, ne_eq, Bool.and_eq_true, Bool.or_eq_true, Bool.and_eq_false_iff, Bool.or_eq_false_iff, Int.not_le, Int.not_lt, Nat.not_le, Nat.not_lt] at h); (try simp only [nc] at h)) | refine Ob.mk ?_ ?_ | refine Chk.mk (by kernel_rfl) ?_ | refine Eq'.mk ?_ | (refine AllN.mk fun i hi => ?_; cbv) | (refine AllC.mk fun c hc hcm => ?_; (try dsimp only at hc); cbv) | (refine AllS.mk fun r hr => ?_; (try simp only [Dat.ok, Dat.dec, Leaf.ok, Leaf.val, val_sl] at hr); cbv)
  all_goals ((try dsimp only at *); (try simp only [nc, Int.toNat_natCast, Bool.not_eq_true', Bool.not_eq_false', decide_eq_true_eq, decide_eq_false_iff_not, beq_iff_eq, beq_eq_false_iff_ne, ba_inj, bne_iff_ne, ne_eq, Bool.and_eq_true, Bool.or_eq_true, Bool.and_eq_false_iff, Bool.or_eq_false_iff, Int.not_le, Int.not_lt, Nat.not_le, Nat.not_lt] at *); (try simp only [nc] at *))
  all_goals first
    | (refine fin _ _ _ _ _ ?_
       rw [midV, if_pos (by omega)])
    | (refine fin _ _ _ _ _ ?_
       rw [midV, if_neg (by omega), if_pos (by omega)])
    | skip
  refine LoopVC.frame [4, 5, 8, 9, 16] (MdX l) (fun x => [(8, .i .i64 fun _ => x.k)]) (fun _ => []) [] (fun x => l.length - x.k) ⟨0, Nat.zero_le _, rfl⟩ rfl (fun _ => rfl) ?_ ?_ fun ⟨k, hk, ha⟩ => ?_
  · cbv
    repeat' first | (refine Stp.mk ?_; cbv) | (refine Gen.mk fun r hr => ?_; (try simp only [Dat.ok, Dat.dec, Leaf.ok, Leaf.val, val_sl, val_nil] at hr); cbv) | exact trivial | rfl | refine Both.mk ?_ ?_ | (refine Imp.mk fun h => ?_; (try dsimp only at h); (try simp only [nc, Int.toNat_natCast, Bool.not_eq_true', Bool.not_eq_false', decide_eq_true_eq, decide_eq_false_iff_not, beq_iff_eq, beq_eq_false_iff_ne, ba_inj, bne_iff_ne, ne_eq, Bool.and_eq_true, Bool.or_eq_true, Bool.and_eq_false_iff, Bool.or_eq_false_iff, Int.not_le, Int.not_lt, Nat.not_le, Nat.not_lt] at h); (try simp only [nc] at h)) | refine Ob.mk ?_ ?_ | refine Chk.mk (by kernel_rfl) ?_ | refine Eq'.mk ?_ | (refine AllN.mk fun i hi => ?_; cbv) | (refine AllC.mk fun c hc hcm => ?_; (try dsimp only at hc); cbv) | (refine AllS.mk fun r hr => ?_; (try simp only [Dat.ok, Dat.dec, Leaf.ok, Leaf.val, val_sl] at hr); cbv)
  · cbv
    repeat' first | (refine Stp.mk ?_; cbv) | (refine Gen.mk fun r hr => ?_; (try simp only [Dat.ok, Dat.dec, Leaf.ok, Leaf.val, val_sl, val_nil] at hr); cbv) | exact trivial | rfl | refine Both.mk ?_ ?_ | (refine Imp.mk fun h => ?_; (try dsimp only at h); (try simp only [nc, Int.toNat_natCast, Bool.not_eq_true', Bool.not_eq_false', decide_eq_true_eq, decide_eq_false_iff_not, beq_iff_eq, beq_eq_false_iff_ne, ba_inj, bne_iff_ne, ne_eq, Bool.and_eq_true, Bool.or_eq_true, Bool.and_eq_false_iff, Bool.or_eq_false_iff, Int.not_le, Int.not_lt, Nat.not_le, Nat.not_lt] at h); (try simp only [nc] at h)) | refine Ob.mk ?_ ?_ | refine Chk.mk (by kernel_rfl) ?_ | refine Eq'.mk ?_ | (refine AllN.mk fun i hi => ?_; cbv) | (refine AllC.mk fun c hc hcm => ?_; (try dsimp only at hc); cbv) | (refine AllS.mk fun r hr => ?_; (try simp only [Dat.ok, Dat.dec, Leaf.ok, Leaf.val, val_sl] at hr); cbv)
  · cbv
    repeat' first | (show Stp _; exfalso; first | omega | (exact h ‹_›) | (exact absurd ‹_› h) | (exact Bool.false_ne_true (h.symm.trans (show _ = true by assumption)))) | (refine Stp.mk ?_; cbv) | (refine Gen.mk fun r hr => ?_; (try simp only [Dat.ok, Dat.dec, Leaf.ok, Leaf.val, val_sl, val_nil] at hr); cbv) | exact trivial | rfl | refine Both.mk ?_ ?_ | (refine Imp.mk fun h => ?_; (try dsimp only at h); (try simp only [nc, Int.toNat_natCast, Bool.not_eq_true', Bool.not_eq_false', decide_eq_true_eq, decide_eq_false_iff_not, beq_iff_eq, beq_eq_false_iff_ne, ba_inj, bne_iff_ne, ne_eq, Bool.and_eq_true, Bool.or_eq_true, Bool.and_eq_false_iff, Bool.or_eq_false_iff, Int.not_le, Int.not_lt, Nat.not_le, Nat.not_lt] at h); (try simp only [nc] at h)) | refine Ob.mk ?_ ?_ | refine Chk.mk (by kernel_rfl) ?_ | refine Eq'.mk ?_ | (refine AllN.mk fun i hi => ?_; cbv) | (refine AllC.mk fun c hc hcm => ?_; (try dsimp only at hc); cbv) | (refine AllS.mk fun r hr => ?_; (try simp only [Dat.ok, Dat.dec, Leaf.ok, Leaf.val, val_sl] at hr); cbv)
    all_goals ((try dsimp only at *); (try simp only [nc, Int.toNat_natCast, Bool.not_eq_true', Bool.not_eq_false', decide_eq_true_eq, decide_eq_false_iff_not, beq_iff_eq, beq_eq_false_iff_ne, ba_inj, bne_iff_ne, ne_eq, Bool.and_eq_true, Bool.or_eq_true, Bool.and_eq_false_iff, Bool.or_eq_false_iff, Int.not_le, Int.not_lt, Nat.not_le, Nat.not_lt] at *); (try simp only [nc] at *))
    all_goals try rw [nc] at *
    all_goals first
      | omega
      | (unfold InR; omega)
      | (have hk2 : k < l.length := by omega
         have hw : wideI (l.getD k Dat.d0) = true := by simp only [wideI, Bool.or_eq_true, decide_eq_true_eq]; omega
         refine fin _ _ _ _ _ ?_
         rw [midV, if_neg (by omega), if_neg (by omega), if_pos (any_at hk2 hw)])
      | (have hk2 : k < l.length := by omega
         refine ⟨⟨k + 1, by omega, any_take hk2 ha (wide_not (by omega) (by omega))⟩, ?_, ?_, rfl, by (try dsimp only); omega⟩
         · cbv
           repeat' first | (refine Stp.mk ?_; cbv) | (refine Gen.mk fun r hr => ?_; (try simp only [Dat.ok, Dat.dec, Leaf.ok, Leaf.val, val_sl, val_nil] at hr); cbv) | exact trivial | rfl | refine Both.mk ?_ ?_ | (refine Imp.mk fun h => ?_; (try dsimp only at h); (try simp only [nc, Int.toNat_natCast, Bool.not_eq_true', Bool.not_eq_false', decide_eq_true_eq, decide_eq_false_iff_not, beq_iff_eq, beq_eq_false_iff_ne, ba_inj, bne_iff_ne, ne_eq, Bool.and_eq_true, Bool.or_eq_true, Bool.and_eq_false_iff, Bool.or_eq_false_iff, Int.not_le, Int.not_lt, Nat.not_le, Nat.not_lt] at h); (try simp only [nc] at h)) | refine Ob.mk ?_ ?_ | refine Chk.mk (by kernel_rfl) ?_ | refine Eq'.mk ?_ | (refine AllN.mk fun i hi => ?_; cbv) | (refine AllC.mk fun c hc hcm => ?_; (try dsimp only at hc); cbv) | (refine AllS.mk fun r hr => ?_; (try simp only [Dat.ok, Dat.dec, Leaf.ok, Leaf.val, val_sl] at hr); cbv)
         · cbv
           repeat' first | (refine Stp.mk ?_; cbv) | (refine Gen.mk fun r hr => ?_; (try simp only [Dat.ok, Dat.dec, Leaf.ok, Leaf.val, val_sl, val_nil] at hr); cbv) | exact trivial | rfl | refine Both.mk ?_ ?_ | (refine Imp.mk fun h => ?_; (try dsimp only at h); (try simp only [nc, Int.toNat_natCast, Bool.not_eq_true', Bool.not_eq_false', decide_eq_true_eq, decide_eq_false_iff_not, beq_iff_eq, beq_eq_false_iff_ne, ba_inj, bne_iff_ne, ne_eq, Bool.and_eq_true, Bool.or_eq_true, Bool.and_eq_false_iff, Bool.or_eq_false_iff, Int.not_le, Int.not_lt, Nat.not_le, Nat.not_lt] at h); (try simp only [nc] at h)) | refine Ob.mk ?_ ?_ | refine Chk.mk (by kernel_rfl) ?_ | refine Eq'.mk ?_ | (refine AllN.mk fun i hi => ?_; cbv) | (refine AllC.mk fun c hc hcm => ?_; (try dsimp only at hc); cbv) | (refine AllS.mk fun r hr => ?_; (try simp only [Dat.ok, Dat.dec, Leaf.ok, Leaf.val, val_sl] at hr); cbv))
      | exact ⟨⟨rfl, fun i _ => Dat.hok _⟩, by show (slV (α := Int) _).length ≤ _; rw [val_sl]; omega⟩
      | skip
    all_goals have hall : l.any wideI = false := by rwa [List.take_of_length_le (by omega)] at ha
    all_goals first
      | (refine fin _ _ _ _ _ ?_
         rw [midV, if_neg (by omega), if_neg (by omega), if_neg (by rw [hall]; decide), if_pos (by omega)])
      | skip
    all_goals have hrl : (sortL l).length = l.length := sortL_len l
    all_goals try (rename (_ = l) => hq; have hq2 := hq.symm; clear hq; subst hq2)
    all_goals subst_vars
    all_goals first
      | exact ⟨rfl, trivial, fun i _ => Dat.hok _, by omega⟩
      | skip
    all_goals have hb1 := sortL_bd hall (i := faults.toNat) (by omega)
    all_goals have hb2 := sortL_bd hall (i := ((l.length : Int) - faults - 1).toNat) (by omega)
    all_goals have e1 : faults.toNat + Int.toNat 0 = faults.toNat := by simp
    all_goals have e2 : faults.toNat + (((((l.length : Int) - faults - faults).toNat : Nat) : Int) - 1).toNat = ((l.length : Int) - faults - 1).toNat := by omega
    all_goals try rw [nc]
    all_goals try simp only [e1, e2]
    all_goals have hb3 := tdiv2_bd (x := (sortL l).getD ((l.length : Int) - faults - 1).toNat Dat.d0 - (sortL l).getD faults.toNat Dat.d0) (B := 2199023255552) (by omega) (by omega)
    all_goals first
      | omega
      | (unfold InR; omega)
      | (refine ⟨by omega, ?_⟩; unfold InR; omega)
      | (refine fin _ _ _ _ _ ?_
         rw [midV, if_neg (by omega), if_neg (by omega), if_neg (by rw [hall]; decide), if_neg (by omega)])
      | fail
theorem mid_ok : PcOk Try.prog 11 (detPC mid_D) := det_okA fun A p r h hp0 => by
  unfold mid_D at h
  split at h
  · rename_i l faults
    cases h
    obtain ⟨g0, hp⟩ := hp0
    exact ⟨rfl, FnOk.pre (A' := [Leaf.av fun _ => (Leaf.val l : (List Int)), .i .i64 fun _ => faults ()]) (mid_vc (Leaf.val l) (faults ()) hp) (.mk (Leaf.hle _ g0) (.mk (.mk (.mk rfl) (.mk rfl)) (trivial)))⟩
  · cases h

end Go.Proofs.Ytpofgnocliaahaa
