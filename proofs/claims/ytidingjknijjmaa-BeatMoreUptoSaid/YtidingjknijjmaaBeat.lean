/- Is it still there: what is heard, and doubted. -/
import Derived.Test.YtidingjknijjmaaSortI
set_option linter.all false
namespace Go.Proofs.Ytidingjknijjmaa
open Go Go.Abs

def heardR (every ends : Int) : Int → List Int → List Int
  | _, [] => []
  | k, d :: l => (if 0 ≤ d ∧ k * every < ends then [k * every + d] else []) ++ heardR every ends (k + 1) l
def okD (d : Int) : Bool := decide (-1 ≤ d ∧ d ≤ 10000)
def heardV (every : Int) (delays : List Int) (ends : Int) : List Int × Int :=
  if ¬ (1 ≤ every ∧ every ≤ 10000 ∧ 0 ≤ ends ∧ ends ≤ 1000000) then ([], 1)
  else if 500 < delays.length then ([], 2)
  else if ¬ delays.all okD = true then ([], 4)
  else (sortL (heardR every ends 0 delays), 0)
structure HeX (every ends : Int) (delays : List Int) where
  k : Nat
  out : List Int
  hk : k ≤ delays.length
  ha : (delays.take k).all okD = true
  hl : out.length ≤ k
  he : heardR every ends 0 delays = out ++ heardR every ends k (delays.drop k)
theorem heard_drop {every ends k : Int} {l : List Int} {j : Nat} (hj : j < l.length) : heardR every ends k (l.drop j) = (if 0 ≤ l.getD j Dat.d0 ∧ k * every < ends then [k * every + l.getD j Dat.d0] else []) ++ heardR every ends (k + 1) (l.drop (j + 1)) := by
  rw [drop_cons Dat.d0 hj, heardR]
theorem okD_take {l : List Int} {k : Nat} (hk : k < l.length) (h : (l.take k).all okD = true) (h2 : -1 ≤ l.getD k Dat.d0 ∧ l.getD k Dat.d0 ≤ 10000) : (l.take (k + 1)).all okD = true := by
  have h3 : okD (l.getD k Dat.d0) = true := decide_eq_true h2
  rw [List.take_add_one, List.getElem?_eq_getElem hk, List.all_append, h]
  rw [List.getD_eq_getElem?_getD, List.getElem?_eq_getElem hk] at h3
  simpa using h3
theorem okD_bad {l : List Int} {k : Nat} (hk : k < l.length) (h2 : ¬ (-1 ≤ l.getD k Dat.d0 ∧ l.getD k Dat.d0 ≤ 10000)) : ¬ l.all okD = true := by
  intro h
  rw [List.getD_eq_getElem?_getD, List.getElem?_eq_getElem hk] at h2
  exact h2 (by simpa [okD] using List.all_eq_true.1 h l[k] (List.getElem_mem _))
def heardC_R (r : Th ((List Int) × Int)) : AV := .tup [.own 0 fun _ => (r ()).1.length, .i .i64 fun _ => (r ()).2]
def heardC_H (r : Th ((List Int) × Int)) : Hp := [vecO 3 fun _ => (r ()).1]
def heardC_C : PC := fun A K => match A with
  | [.i .i64 every, delays, .i .i64 ends] => Ob (fun _ => Leaf.ok (List Int) delays) (Gen (α := (List Int) × Int) (fun _ => heardV (every ()) (Leaf.val delays) (ends ())) fun r => K (heardC_R fun _ => r) (heardC_H fun _ => r))
  | _ => Bad 1002
noncomputable def cHE : FuncId → Con := fun f => match f with
  | 13 => sortI_K
  | 19 => inlCon E noCon noDraws [0, 1, 2, 6] Try.f19
  | _ => fun _ _ _ => Bad 1001
theorem cHE_ok : ConOk Try.prog cHE := fun f A H K h => by
  unfold cHE at h
  split at h
  · exact ⟨⟨Try.f13, Try.func13, by kernel_rfl, by kernel_rfl⟩, sortI_ok h⟩
  · exact ⟨⟨Try.f19, Try.func19, by kernel_rfl, by kernel_rfl⟩, inl_ok envOk zl noCon_ok noDraws_ok Try.func19 h⟩
  · cases h
set_option maxRecDepth 100000 in
set_option maxHeartbeats 4000000 in
theorem heardC_vc (every : Int) (delays : (List Int)) (ends : Int) : FnOk Try.prog 7 [.i .i64 fun _ => every, Leaf.av fun _ => delays, .i .i64 fun _ => ends] [] (outA (heardC_R fun _ => heardV every delays ends) (heardC_H fun _ => heardV every delays ends)) := by
  refine fn_ok envOk zl cHE_ok noDraws_ok (keep := [0, 1, 2, 6, 7, 8, 9, 10, 18, 21, 22, 23, 24, 25, 31, 40]) Try.func7 rfl ?_
  have fin0 : ∀ (e : Int) kl H, heardV every delays ends = ([], e) → outA (heardC_R fun _ => heardV every delays ends) (heardC_H fun _ => heardV every delays ends) (.tup [.nil, .i .i64 fun _ => e]) H kl := fun e kl H h => by
    rw [h]
    cbv
    repeat' first | (refine Stp.mk ?_; cbv) | (refine Gen.mk fun r hr => ?_; (try simp only [Dat.ok, Dat.dec, Leaf.ok, Leaf.val, Span.eta, val_sl, val_nil] at hr); cbv) | exact trivial | rfl | refine Both.mk ?_ ?_ | (refine Imp.mk fun h => ?_; (try dsimp only at h); (try simp only [nc, Int.toNat_natCast, Bool.not_eq_true', Bool.not_eq_false', decide_eq_true_eq, decide_eq_false_iff_not, beq_iff_eq, beq_eq_false_iff_ne, ba_inj, bne_iff_ne, ne_eq, Bool.and_eq_true, Bool.or_eq_true, Bool.and_eq_false_iff, Bool.or_eq_false_iff, Int.not_le, Int.not_lt, Nat.not_le, Nat.not_lt] at h); (try simp only [nc] at h)) | refine Ob.mk ?_ ?_ | refine Chk.mk (by kernel_rfl) ?_ | refine Eq'.mk ?_ | (refine AllN.mk fun i hi => ?_; cbv) | (refine AllS.mk fun r hr => ?_; (try simp only [Dat.ok, Dat.dec, Leaf.ok, Leaf.val, Span.eta, val_sl] at hr); cbv)
    all_goals first | rfl | (exfalso; omega)
  have fin1 : ∀ d (n : Nat) (e : Int) kl H, heardV every delays ends = (d, e) → n = d.length → outA (heardC_R fun _ => heardV every delays ends) (heardC_H fun _ => heardV every delays ends) (.tup [.own 0 fun _ => n, .i .i64 fun _ => e]) (vecO 3 (fun _ => d) :: H) kl := fun d n e kl H h hn => by
    subst hn
    rw [h]
    cbv
    repeat' first | (refine Stp.mk ?_; cbv) | (refine Gen.mk fun r hr => ?_; (try simp only [Dat.ok, Dat.dec, Leaf.ok, Leaf.val, Span.eta, val_sl, val_nil] at hr); cbv) | exact trivial | rfl | refine Both.mk ?_ ?_ | (refine Imp.mk fun h => ?_; (try dsimp only at h); (try simp only [nc, Int.toNat_natCast, Bool.not_eq_true', Bool.not_eq_false', decide_eq_true_eq, decide_eq_false_iff_not, beq_iff_eq, beq_eq_false_iff_ne, ba_inj, bne_iff_ne, ne_eq, Bool.and_eq_true, Bool.or_eq_true, Bool.and_eq_false_iff, Bool.or_eq_false_iff, Int.not_le, Int.not_lt, Nat.not_le, Nat.not_lt] at h); (try simp only [nc] at h)) | refine Ob.mk ?_ ?_ | refine Chk.mk (by kernel_rfl) ?_ | refine Eq'.mk ?_ | (refine AllN.mk fun i hi => ?_; cbv) | (refine AllS.mk fun r hr => ?_; (try simp only [Dat.ok, Dat.dec, Leaf.ok, Leaf.val, Span.eta, val_sl] at hr); cbv)
  generalize outA (heardC_R fun _ => heardV every delays ends) (heardC_H fun _ => heardV every delays ends) = K at fin0 fin1 ⊢
  cbv
  repeat' first | (show Stp _; exfalso; first | omega | (exact h ‹_›) | (exact absurd ‹_› h) | (exact Bool.false_ne_true (h.symm.trans (show _ = true by assumption)))) | (refine Stp.mk ?_; cbv) | (refine Gen.mk fun r hr => ?_; (try simp only [Dat.ok, Dat.dec, Leaf.ok, Leaf.val, Span.eta, val_sl, val_nil] at hr); cbv) | exact trivial | rfl | refine Both.mk ?_ ?_ | (refine Imp.mk fun h => ?_; (try dsimp only at h); (try simp only [nc, Int.toNat_natCast, Bool.not_eq_true', Bool.not_eq_false', decide_eq_true_eq, decide_eq_false_iff_not, beq_iff_eq, beq_eq_false_iff_ne, ba_inj, bne_iff_ne, ne_eq, Bool.and_eq_true, Bool.or_eq_true, Bool.and_eq_false_iff, Bool.or_eq_false_iff, Int.not_le, Int.not_lt, Nat.not_le, Nat.not_lt] at h); (try simp only [nc] at h)) | refine Ob.mk ?_ ?_ | refine Chk.mk (by kernel_rfl) ?_ | refine Eq'.mk ?_ | (refine AllN.mk fun i hi => ?_; cbv) | (refine AllS.mk fun r hr => ?_; (try simp only [Dat.ok, Dat.dec, Leaf.ok, Leaf.val, Span.eta, val_sl] at hr); cbv)
  all_goals ((try dsimp only at *); (try simp only [nc, Int.toNat_natCast, Bool.not_eq_true', Bool.not_eq_false', decide_eq_true_eq, decide_eq_false_iff_not, beq_iff_eq, beq_eq_false_iff_ne, ba_inj, bne_iff_ne, ne_eq, Bool.and_eq_true, Bool.or_eq_true, Bool.and_eq_false_iff, Bool.or_eq_false_iff, Int.not_le, Int.not_lt, Nat.not_le, Nat.not_lt] at *); (try simp only [nc] at *))
  all_goals first
    | (refine fin0 _ _ _ ?_
       rw [heardV, if_pos (by omega)])
    | (refine fin0 _ _ _ ?_
       rw [heardV, if_neg (by omega), if_pos (by omega)])
    | skip
  have hr : ¬ ¬ (1 ≤ every ∧ every ≤ 10000 ∧ 0 ≤ ends ∧ ends ≤ 1000000) := by omega
  have hn : ¬ 500 < delays.length := by omega
  refine LoopVC.frame [6, 7, 8, 9, 10, 24, 25, 31, 40] (HeX every ends delays) (fun x => [(24, .i .i64 fun _ => x.k), (8, .own 0 fun _ => x.out.length)]) (fun x => [(0, vecO 3 fun _ => x.out)]) [0] (fun x => delays.length - x.k) ⟨0, [], Nat.zero_le _, rfl, Nat.le_refl _, rfl⟩ rfl (fun _ => rfl) ?_ ?_ fun ⟨k, out, hk, ha, hl, he⟩ => ?_
  · cbv
    repeat' first | (refine Stp.mk ?_; cbv) | (refine Gen.mk fun r hr => ?_; (try simp only [Dat.ok, Dat.dec, Leaf.ok, Leaf.val, Span.eta, val_sl, val_nil] at hr); cbv) | exact trivial | rfl | refine Both.mk ?_ ?_ | (refine Imp.mk fun h => ?_; (try dsimp only at h); (try simp only [nc, Int.toNat_natCast, Bool.not_eq_true', Bool.not_eq_false', decide_eq_true_eq, decide_eq_false_iff_not, beq_iff_eq, beq_eq_false_iff_ne, ba_inj, bne_iff_ne, ne_eq, Bool.and_eq_true, Bool.or_eq_true, Bool.and_eq_false_iff, Bool.or_eq_false_iff, Int.not_le, Int.not_lt, Nat.not_le, Nat.not_lt] at h); (try simp only [nc] at h)) | refine Ob.mk ?_ ?_ | refine Chk.mk (by kernel_rfl) ?_ | refine Eq'.mk ?_ | (refine AllN.mk fun i hi => ?_; cbv) | (refine AllS.mk fun r hr => ?_; (try simp only [Dat.ok, Dat.dec, Leaf.ok, Leaf.val, Span.eta, val_sl] at hr); cbv)
  · cbv
    repeat' first | (refine Stp.mk ?_; cbv) | (refine Gen.mk fun r hr => ?_; (try simp only [Dat.ok, Dat.dec, Leaf.ok, Leaf.val, Span.eta, val_sl, val_nil] at hr); cbv) | exact trivial | rfl | refine Both.mk ?_ ?_ | (refine Imp.mk fun h => ?_; (try dsimp only at h); (try simp only [nc, Int.toNat_natCast, Bool.not_eq_true', Bool.not_eq_false', decide_eq_true_eq, decide_eq_false_iff_not, beq_iff_eq, beq_eq_false_iff_ne, ba_inj, bne_iff_ne, ne_eq, Bool.and_eq_true, Bool.or_eq_true, Bool.and_eq_false_iff, Bool.or_eq_false_iff, Int.not_le, Int.not_lt, Nat.not_le, Nat.not_lt] at h); (try simp only [nc] at h)) | refine Ob.mk ?_ ?_ | refine Chk.mk (by kernel_rfl) ?_ | refine Eq'.mk ?_ | (refine AllN.mk fun i hi => ?_; cbv) | (refine AllS.mk fun r hr => ?_; (try simp only [Dat.ok, Dat.dec, Leaf.ok, Leaf.val, Span.eta, val_sl] at hr); cbv)
  · have hmul : (k : Int) * 1 ≤ (k : Int) * every ∧ (k : Int) * every ≤ (k : Int) * 10000 := ⟨Int.mul_le_mul_of_nonneg_left (by omega) (by omega), Int.mul_le_mul_of_nonneg_left (by omega) (by omega)⟩
    cbv
    repeat' first | (show Stp _; exfalso; first | omega | (exact h ‹_›) | (exact absurd ‹_› h) | (exact Bool.false_ne_true (h.symm.trans (show _ = true by assumption)))) | (refine Stp.mk ?_; cbv) | (refine Gen.mk fun r hr => ?_; (try simp only [Dat.ok, Dat.dec, Leaf.ok, Leaf.val, Span.eta, val_sl, val_nil] at hr); cbv) | exact trivial | rfl | refine Both.mk ?_ ?_ | (refine Imp.mk fun h => ?_; (try dsimp only at h); (try simp only [nc, Int.toNat_natCast, Bool.not_eq_true', Bool.not_eq_false', decide_eq_true_eq, decide_eq_false_iff_not, beq_iff_eq, beq_eq_false_iff_ne, ba_inj, bne_iff_ne, ne_eq, Bool.and_eq_true, Bool.or_eq_true, Bool.and_eq_false_iff, Bool.or_eq_false_iff, Int.not_le, Int.not_lt, Nat.not_le, Nat.not_lt] at h); (try simp only [nc] at h)) | refine Ob.mk ?_ ?_ | refine Chk.mk (by kernel_rfl) ?_ | refine Eq'.mk ?_ | (refine AllN.mk fun i hi => ?_; cbv) | (refine AllS.mk fun r hr => ?_; (try simp only [Dat.ok, Dat.dec, Leaf.ok, Leaf.val, Span.eta, val_sl] at hr); cbv)
    all_goals ((try dsimp only at *); (try simp only [nc, Int.toNat_natCast, Bool.not_eq_true', Bool.not_eq_false', decide_eq_true_eq, decide_eq_false_iff_not, beq_iff_eq, beq_eq_false_iff_ne, ba_inj, bne_iff_ne, ne_eq, Bool.and_eq_true, Bool.or_eq_true, Bool.and_eq_false_iff, Bool.or_eq_false_iff, Int.not_le, Int.not_lt, Nat.not_le, Nat.not_lt] at *); (try simp only [nc] at *))
    all_goals try rw [nc] at *
    all_goals first
      | omega
      | (unfold InR; omega)
      | exact ⟨Nat.le_refl _, Nat.le_refl _, by omega, by omega⟩
      | (have hk2 : k < delays.length := by omega
         refine fin0 _ _ _ ?_
         rw [heardV, if_neg (by omega), if_neg (by omega), if_pos (okD_bad hk2 (by omega))])
      | (have hk2 : k < delays.length := by omega
         have c : 0 ≤ delays.getD k Dat.d0 ∧ (k : Int) * every < ends := ⟨by assumption, by assumption⟩
         refine ⟨⟨k + 1, out ++ [(k : Int) * every + delays.getD k Dat.d0], by omega, okD_take hk2 ha (by omega), by rw [List.length_append]; show out.length + 1 ≤ _; omega, by rw [he, heard_drop hk2, if_pos c]; simp⟩, ?_, ?_, rfl, by (try dsimp only); omega⟩
         · cbv
           repeat' first | (refine Stp.mk ?_; cbv) | (refine Gen.mk fun r hr => ?_; (try simp only [Dat.ok, Dat.dec, Leaf.ok, Leaf.val, Span.eta, val_sl, val_nil] at hr); cbv) | exact trivial | rfl | refine Both.mk ?_ ?_ | (refine Imp.mk fun h => ?_; (try dsimp only at h); (try simp only [nc, Int.toNat_natCast, Bool.not_eq_true', Bool.not_eq_false', decide_eq_true_eq, decide_eq_false_iff_not, beq_iff_eq, beq_eq_false_iff_ne, ba_inj, bne_iff_ne, ne_eq, Bool.and_eq_true, Bool.or_eq_true, Bool.and_eq_false_iff, Bool.or_eq_false_iff, Int.not_le, Int.not_lt, Nat.not_le, Nat.not_lt] at h); (try simp only [nc] at h)) | refine Ob.mk ?_ ?_ | refine Chk.mk (by kernel_rfl) ?_ | refine Eq'.mk ?_ | (refine AllN.mk fun i hi => ?_; cbv) | (refine AllS.mk fun r hr => ?_; (try simp only [Dat.ok, Dat.dec, Leaf.ok, Leaf.val, Span.eta, val_sl] at hr); cbv)
           all_goals simp
         · cbv
           repeat' first | (refine Stp.mk ?_; cbv) | (refine Gen.mk fun r hr => ?_; (try simp only [Dat.ok, Dat.dec, Leaf.ok, Leaf.val, Span.eta, val_sl, val_nil] at hr); cbv) | exact trivial | rfl | refine Both.mk ?_ ?_ | (refine Imp.mk fun h => ?_; (try dsimp only at h); (try simp only [nc, Int.toNat_natCast, Bool.not_eq_true', Bool.not_eq_false', decide_eq_true_eq, decide_eq_false_iff_not, beq_iff_eq, beq_eq_false_iff_ne, ba_inj, bne_iff_ne, ne_eq, Bool.and_eq_true, Bool.or_eq_true, Bool.and_eq_false_iff, Bool.or_eq_false_iff, Int.not_le, Int.not_lt, Nat.not_le, Nat.not_lt] at h); (try simp only [nc] at h)) | refine Ob.mk ?_ ?_ | refine Chk.mk (by kernel_rfl) ?_ | refine Eq'.mk ?_ | (refine AllN.mk fun i hi => ?_; cbv) | (refine AllS.mk fun r hr => ?_; (try simp only [Dat.ok, Dat.dec, Leaf.ok, Leaf.val, Span.eta, val_sl] at hr); cbv)
           all_goals ((try dsimp only at *); (try simp only [nc, Int.toNat_natCast, Bool.not_eq_true', Bool.not_eq_false', decide_eq_true_eq, decide_eq_false_iff_not, beq_iff_eq, beq_eq_false_iff_ne, ba_inj, bne_iff_ne, ne_eq, Bool.and_eq_true, Bool.or_eq_true, Bool.and_eq_false_iff, Bool.or_eq_false_iff, Int.not_le, Int.not_lt, Nat.not_le, Nat.not_lt] at *); (try simp only [nc] at *))
           all_goals first
             | (rw [gd_snoc out _ Dat.d0 i (by assumption)]; done)
             | exact (gd_snoc out _ Dat.d0 i (by assumption)).symm
             | (rw [gd_snoc out _ Dat.d0 i (by assumption)]; cases decide (i < out.length) <;> rfl)
             | (simp; done)
             | fail)
      | (have hk2 : k < delays.length := by omega
         have c : ¬ (0 ≤ delays.getD k Dat.d0 ∧ (k : Int) * every < ends) := by omega
         refine ⟨⟨k + 1, out, by omega, okD_take hk2 ha (by omega), by omega, by rw [he, heard_drop hk2, if_neg c]; simp⟩, ?_, ?_, rfl, by (try dsimp only); omega⟩
         · cbv
           repeat' first | (refine Stp.mk ?_; cbv) | (refine Gen.mk fun r hr => ?_; (try simp only [Dat.ok, Dat.dec, Leaf.ok, Leaf.val, Span.eta, val_sl, val_nil] at hr); cbv) | exact trivial | rfl | refine Both.mk ?_ ?_ | (refine Imp.mk fun h => ?_; (try dsimp only at h); (try simp only [nc, Int.toNat_natCast, Bool.not_eq_true', Bool.not_eq_false', decide_eq_true_eq, decide_eq_false_iff_not, beq_iff_eq, beq_eq_false_iff_ne, ba_inj, bne_iff_ne, ne_eq, Bool.and_eq_true, Bool.or_eq_true, Bool.and_eq_false_iff, Bool.or_eq_false_iff, Int.not_le, Int.not_lt, Nat.not_le, Nat.not_lt] at h); (try simp only [nc] at h)) | refine Ob.mk ?_ ?_ | refine Chk.mk (by kernel_rfl) ?_ | refine Eq'.mk ?_ | (refine AllN.mk fun i hi => ?_; cbv) | (refine AllS.mk fun r hr => ?_; (try simp only [Dat.ok, Dat.dec, Leaf.ok, Leaf.val, Span.eta, val_sl] at hr); cbv)
         · cbv
           repeat' first | (refine Stp.mk ?_; cbv) | (refine Gen.mk fun r hr => ?_; (try simp only [Dat.ok, Dat.dec, Leaf.ok, Leaf.val, Span.eta, val_sl, val_nil] at hr); cbv) | exact trivial | rfl | refine Both.mk ?_ ?_ | (refine Imp.mk fun h => ?_; (try dsimp only at h); (try simp only [nc, Int.toNat_natCast, Bool.not_eq_true', Bool.not_eq_false', decide_eq_true_eq, decide_eq_false_iff_not, beq_iff_eq, beq_eq_false_iff_ne, ba_inj, bne_iff_ne, ne_eq, Bool.and_eq_true, Bool.or_eq_true, Bool.and_eq_false_iff, Bool.or_eq_false_iff, Int.not_le, Int.not_lt, Nat.not_le, Nat.not_lt] at h); (try simp only [nc] at h)) | refine Ob.mk ?_ ?_ | refine Chk.mk (by kernel_rfl) ?_ | refine Eq'.mk ?_ | (refine AllN.mk fun i hi => ?_; cbv) | (refine AllS.mk fun r hr => ?_; (try simp only [Dat.ok, Dat.dec, Leaf.ok, Leaf.val, Span.eta, val_sl] at hr); cbv)
           all_goals ((try dsimp only at *); (try simp only [nc, Int.toNat_natCast, Bool.not_eq_true', Bool.not_eq_false', decide_eq_true_eq, decide_eq_false_iff_not, beq_iff_eq, beq_eq_false_iff_ne, ba_inj, bne_iff_ne, ne_eq, Bool.and_eq_true, Bool.or_eq_true, Bool.and_eq_false_iff, Bool.or_eq_false_iff, Int.not_le, Int.not_lt, Nat.not_le, Nat.not_lt] at *); (try simp only [nc] at *)))
      | exact ⟨rfl, trivial, fun i _ => Dat.hok _, by omega⟩
      | (have hall : delays.all okD = true := by rwa [List.take_of_length_le (by omega)] at ha
         have hrl : (sortL out).length = out.length := List.length_mergeSort _
         subst_vars
         refine fin1 (sortL out) _ _ _ _ ?_ hrl.symm
         rw [heardV, if_neg (by omega), if_neg (by omega), if_neg (by simp [hall]), he, List.drop_eq_nil_of_le (by omega)]
         simp [heardR])
      | fail
theorem heardC_ok : PcOk Try.prog 7 (heardC_C) := fun A K h => by
  unfold heardC_C at h
  split at h
  · rename_i every delays ends
    cases h with
    | mk h1 h2 =>
      have g0 := h1
      refine FnOk.pre ?_ (A' := [.i .i64 fun _ => every (), Leaf.av fun _ => (Leaf.val delays : (List Int)), .i .i64 fun _ => ends ()]) (.mk (.mk (.mk rfl) (.mk rfl)) (.mk (Leaf.hle _ g0) (.mk (.mk (.mk rfl) (.mk rfl)) (trivial))))
      exact FnOk.out (K := fun r H _ => K r H) (heardC_vc (every ()) (Leaf.val delays) (ends ())) rfl h2.out
  · cases h

end Go.Proofs.Ytidingjknijjmaa
