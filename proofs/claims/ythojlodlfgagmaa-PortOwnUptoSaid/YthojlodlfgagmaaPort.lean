/- The functions of package port, walked. -/
import Derived.Test.YthojlodlfgagmaaTy
set_option linter.all false
namespace Go.Proofs.Ythojlodlfgagmaa
open Go Go.Abs

def pkB (p : Port) : Bool := if p.kind = 1 then decide (p.room = 1 ∧ 0 ≤ p.fresh ∧ p.fresh ≤ 1099511627776) else decide (p.kind = 2 ∧ 1 ≤ p.room ∧ p.room ≤ 100 ∧ p.fresh = 0)
def lgB (n : Int) (l : List ByteArray) : Bool := l.any fun s => decide (n < s.size)
def pchkV (p : Port) : Int :=
  if ¬ (pkB p = true ∧ 1 ≤ p.size ∧ p.size ≤ 4096) then 1 else if p.room < p.texts.length ∨ lgB p.size p.texts = true then 4 else
  if p.at_ < 0 ∨ 1099511627776 < p.at_ ∨ 0 < p.at_ ∧ (p.texts.length = 0 ∨ p.kind = 2) then 4 else 0
theorem pkB_iff {p : Port} : pkB p = true ↔ (p.kind = 1 ∧ p.room = 1 ∧ 0 ≤ p.fresh ∧ p.fresh ≤ 1099511627776) ∨ (p.kind = 2 ∧ 1 ≤ p.room ∧ p.room ≤ 100 ∧ p.fresh = 0) := by
  unfold pkB
  by_cases h : p.kind = 1
  · rw [if_pos h, decide_eq_true_eq]; omega
  · rw [if_neg h, decide_eq_true_eq]; omega
theorem lgB_snoc {n : Int} {l : List ByteArray} {k : Nat} (hk : k < l.length) (h : lgB n (l.take k) = false) (h2 : ((l.getD k Dat.d0).size : Int) ≤ n) : lgB n (l.take (k + 1)) = false := by
  unfold lgB at *
  rw [take_snoc Dat.d0 hk, List.any_append, h]
  simp only [List.any_cons, List.any_nil, Bool.or_false, Bool.false_or, decide_eq_false_iff_not]
  omega
theorem lgB_hit {n : Int} {l : List ByteArray} {k : Nat} (hk : k < l.length) (h2 : n < ((l.getD k Dat.d0).size : Int)) : lgB n l = true := by
  unfold lgB
  rw [List.any_eq_true]
  exact ⟨l.getD k Dat.d0, by rw [List.getD_eq_getElem?_getD, List.getElem?_eq_getElem hk]; exact List.getElem_mem hk, decide_eq_true h2⟩
def pchk_R (r : Th (Int)) : AV := .i .i64 fun _ => (r ())
def pchk_P (p : Port) : Prop := p.texts.length ≤ 9223372036854775807
def pchk_D : Det := fun A => match A with
  | [.agg p] => some (fun _ => Dat.ok Port p ∧ pchk_P (Dat.dec p), pchk_R fun _ => pchkV (Dat.dec p))
  | _ => none
noncomputable def cPk1 : FuncId → Con := fun f => match f with
  | 17 => inlCon E noCon noDraws [0, 1, 3] Try.f17
  | _ => fun _ _ _ => Bad 1001
theorem cPk1_ok : ConOk Try.prog cPk1 := fun f A H K h => by
  unfold cPk1 at h
  split at h
  · exact ⟨⟨Try.f17, Try.func17, by kernel_rfl, by kernel_rfl⟩, inl_ok envOk zl noCon_ok noDraws_ok Try.func17 h⟩
  · cases h
noncomputable def cPk2 : FuncId → Con := fun f => match f with
  | 19 => inlCon E cPk1 noDraws [0, 1, 4, 5, 7, 8, 9, 16] Try.f19
  | _ => fun _ _ _ => Bad 1001
theorem cPk2_ok : ConOk Try.prog cPk2 := fun f A H K h => by
  unfold cPk2 at h
  split at h
  · exact ⟨⟨Try.f19, Try.func19, by kernel_rfl, by kernel_rfl⟩, inl_ok envOk zl cPk1_ok noDraws_ok Try.func19 h⟩
  · cases h
noncomputable def cPk : FuncId → Con := fun f => match f with
  | 15 => inlCon E noCon noDraws [0, 1, 2, 3, 5, 6, 10] Try.f15
  | 35 => inlCon E noCon noDraws [0, 1, 3, 4] Try.f35
  | 38 => inlCon E noCon noDraws [0, 1, 3, 4] Try.f38
  | 16 => inlCon E cPk2 noDraws [0, 1, 4] Try.f16
  | _ => fun _ _ _ => Bad 1001
theorem cPk_ok : ConOk Try.prog cPk := fun f A H K h => by
  unfold cPk at h
  split at h
  · exact ⟨⟨Try.f15, Try.func15, by kernel_rfl, by kernel_rfl⟩, inl_ok envOk zl noCon_ok noDraws_ok Try.func15 h⟩
  · exact ⟨⟨Try.f35, Try.func35, by kernel_rfl, by kernel_rfl⟩, inl_ok envOk zl noCon_ok noDraws_ok Try.func35 h⟩
  · exact ⟨⟨Try.f38, Try.func38, by kernel_rfl, by kernel_rfl⟩, inl_ok envOk zl noCon_ok noDraws_ok Try.func38 h⟩
  · exact ⟨⟨Try.f16, Try.func16, by kernel_rfl, by kernel_rfl⟩, inl_ok envOk zl cPk2_ok noDraws_ok Try.func16 h⟩
  · cases h
structure PkX (n : Int) (l : List ByteArray) where
  k : Nat
  hk : k ≤ l.length
  hr : lgB n (l.take k) = false
set_option maxRecDepth 100000 in
set_option maxHeartbeats 4000000 in
theorem pchk_vc (p : Port) (hp : pchk_P p) : FnOk Try.prog 11 [.agg (Dat.enc fun _ => p)] [] (outA (pchk_R fun _ => pchkV p) []) := by
  refine fn_ok envOk zl cPk_ok noDraws_ok (keep := [0, 1, 2, 3, 4, 27, 39, 63]) Try.func11 rfl ?_
  have hp' : p.texts.length ≤ 9223372036854775807 := hp
  have fin : ∀ (e : Int) H kl, pchkV p = e → outA (pchk_R fun _ => pchkV p) [] (.i .i64 fun _ => e) H kl := fun e H kl h => by
    rw [h]
    cbv
    repeat' first | (refine Stp.mk ?_; cbv) | (refine Gen.mk fun r hr => ?_; (try simp only [Dat.ok, Dat.dec, Leaf.ok, Leaf.val, Port.eta, PortOp.eta, PortAns.eta, val_sl, val_nil] at hr); cbv) | exact trivial | rfl | refine Both.mk ?_ ?_ | (refine Imp.mk fun h => ?_; (try dsimp only at h); (try simp only [nc, Int.toNat_natCast, Bool.not_eq_true', Bool.not_eq_false', decide_eq_true_eq, decide_eq_false_iff_not, beq_iff_eq, beq_eq_false_iff_ne, ba_inj, bne_iff_ne, ne_eq, Bool.and_eq_true, Bool.or_eq_true, Bool.and_eq_false_iff, Bool.or_eq_false_iff, Int.not_le, Int.not_lt, Nat.not_le, Nat.not_lt] at h); (try simp only [nc] at h)) | refine Ob.mk ?_ ?_ | refine Chk.mk (by kernel_rfl) ?_ | refine Eq'.mk ?_ | (refine AllN.mk fun i hi => ?_; cbv) | (refine AllC.mk fun c hc hcm => ?_; (try dsimp only at hc); cbv) | (refine AllS.mk fun r hr => ?_; (try simp only [Dat.ok, Dat.dec, Leaf.ok, Leaf.val, Port.eta, PortOp.eta, PortAns.eta, val_sl] at hr); cbv)
  generalize outA (pchk_R fun _ => pchkV p) [] = K at fin ⊢
  cbv
  repeat' first | (show Stp _; exfalso; first | omega | (exact h ‹_›) | (exact absurd ‹_› h) | (exact Bool.false_ne_true (h.symm.trans (show _ = true by assumption)))) | (refine Stp.mk ?_; cbv) | (refine Gen.mk fun r hr => ?_; (try simp only [Dat.ok, Dat.dec, Leaf.ok, Leaf.val, Port.eta, PortOp.eta, PortAns.eta, val_sl, val_nil] at hr); cbv) | exact trivial | rfl | refine Both.mk ?_ ?_ | (refine Imp.mk fun h => ?_; (try dsimp only at h); (try simp only [nc, Int.toNat_natCast, Bool.not_eq_true', Bool.not_eq_false', decide_eq_true_eq, decide_eq_false_iff_not, beq_iff_eq, beq_eq_false_iff_ne, ba_inj, bne_iff_ne, ne_eq, Bool.and_eq_true, Bool.or_eq_true, Bool.and_eq_false_iff, Bool.or_eq_false_iff, Int.not_le, Int.not_lt, Nat.not_le, Nat.not_lt] at h); (try simp only [nc] at h)) | refine Ob.mk ?_ ?_ | refine Chk.mk (by kernel_rfl) ?_ | refine Eq'.mk ?_ | (refine AllN.mk fun i hi => ?_; cbv) | (refine AllC.mk fun c hc hcm => ?_; (try dsimp only at hc); cbv) | (refine AllS.mk fun r hr => ?_; (try simp only [Dat.ok, Dat.dec, Leaf.ok, Leaf.val, Port.eta, PortOp.eta, PortAns.eta, val_sl] at hr); cbv)
  all_goals ((try dsimp only at *); (try simp only [nc, Int.toNat_natCast, Bool.not_eq_true', Bool.not_eq_false', decide_eq_true_eq, decide_eq_false_iff_not, beq_iff_eq, beq_eq_false_iff_ne, ba_inj, bne_iff_ne, ne_eq, Bool.and_eq_true, Bool.or_eq_true, Bool.and_eq_false_iff, Bool.or_eq_false_iff, Int.not_le, Int.not_lt, Nat.not_le, Nat.not_lt] at *); (try simp only [nc] at *))
  all_goals have e1 : ¬ (pkB p = true ∧ 1 ≤ p.size ∧ p.size ≤ 4096) → pchkV p = 1 := fun h => by rw [pchkV, if_pos h]
  all_goals have e2 : (pkB p = true ∧ 1 ≤ p.size ∧ p.size ≤ 4096) → (p.room < p.texts.length ∨ lgB p.size p.texts = true) → pchkV p = 4 := fun h h2 => by rw [pchkV, if_neg (fun q => q h), if_pos h2]
  all_goals have e3 : (pkB p = true ∧ 1 ≤ p.size ∧ p.size ≤ 4096) → ¬ (p.room < p.texts.length ∨ lgB p.size p.texts = true) → (p.at_ < 0 ∨ 1099511627776 < p.at_ ∨ 0 < p.at_ ∧ (p.texts.length = 0 ∨ p.kind = 2)) → pchkV p = 4 := fun h h2 h3 => by rw [pchkV, if_neg (fun q => q h), if_neg h2, if_pos h3]
  all_goals have e4 : (pkB p = true ∧ 1 ≤ p.size ∧ p.size ≤ 4096) → ¬ (p.room < p.texts.length ∨ lgB p.size p.texts = true) → ¬ (p.at_ < 0 ∨ 1099511627776 < p.at_ ∨ 0 < p.at_ ∧ (p.texts.length = 0 ∨ p.kind = 2)) → pchkV p = 0 := fun h h2 h3 => by rw [pchkV, if_neg (fun q => q h), if_neg h2, if_neg h3]
  all_goals rw [pkB_iff] at e1 e2 e3 e4
  all_goals first
    | exact fin _ _ _ (e1 (by omega))
    | exact fin _ _ _ (e2 (by omega) (.inl (by omega)))
    | skip
  all_goals refine LoopVC.frame [4, 5, 8, 9, 16] (PkX p.size p.texts) (fun x => [(8, .i .i64 fun _ => x.k)]) (fun _ => []) [] (fun x => p.texts.length - x.k) ⟨0, Nat.zero_le _, rfl⟩ rfl (fun _ => rfl) ?_ ?_ fun ⟨k, hk, hr⟩ => ?_
  all_goals first
    | (cbv
       repeat' first | (refine Stp.mk ?_; cbv) | (refine Gen.mk fun r hr => ?_; (try simp only [Dat.ok, Dat.dec, Leaf.ok, Leaf.val, Port.eta, PortOp.eta, PortAns.eta, val_sl, val_nil] at hr); cbv) | exact trivial | rfl | refine Both.mk ?_ ?_ | (refine Imp.mk fun h => ?_; (try dsimp only at h); (try simp only [nc, Int.toNat_natCast, Bool.not_eq_true', Bool.not_eq_false', decide_eq_true_eq, decide_eq_false_iff_not, beq_iff_eq, beq_eq_false_iff_ne, ba_inj, bne_iff_ne, ne_eq, Bool.and_eq_true, Bool.or_eq_true, Bool.and_eq_false_iff, Bool.or_eq_false_iff, Int.not_le, Int.not_lt, Nat.not_le, Nat.not_lt] at h); (try simp only [nc] at h)) | refine Ob.mk ?_ ?_ | refine Chk.mk (by kernel_rfl) ?_ | refine Eq'.mk ?_ | (refine AllN.mk fun i hi => ?_; cbv) | (refine AllC.mk fun c hc hcm => ?_; (try dsimp only at hc); cbv) | (refine AllS.mk fun r hr => ?_; (try simp only [Dat.ok, Dat.dec, Leaf.ok, Leaf.val, Port.eta, PortOp.eta, PortAns.eta, val_sl] at hr); cbv)
       done)
    | skip
  all_goals cbv
  repeat' first | (show Stp _; exfalso; first | omega | (exact h ‹_›) | (exact absurd ‹_› h) | (exact Bool.false_ne_true (h.symm.trans (show _ = true by assumption)))) | (refine Stp.mk ?_; cbv) | (refine Gen.mk fun r hr => ?_; (try simp only [Dat.ok, Dat.dec, Leaf.ok, Leaf.val, Port.eta, PortOp.eta, PortAns.eta, val_sl, val_nil] at hr); cbv) | exact trivial | rfl | refine Both.mk ?_ ?_ | (refine Imp.mk fun h => ?_; (try dsimp only at h); (try simp only [nc, Int.toNat_natCast, Bool.not_eq_true', Bool.not_eq_false', decide_eq_true_eq, decide_eq_false_iff_not, beq_iff_eq, beq_eq_false_iff_ne, ba_inj, bne_iff_ne, ne_eq, Bool.and_eq_true, Bool.or_eq_true, Bool.and_eq_false_iff, Bool.or_eq_false_iff, Int.not_le, Int.not_lt, Nat.not_le, Nat.not_lt] at h); (try simp only [nc] at h)) | refine Ob.mk ?_ ?_ | refine Chk.mk (by kernel_rfl) ?_ | refine Eq'.mk ?_ | (refine AllN.mk fun i hi => ?_; cbv) | (refine AllC.mk fun c hc hcm => ?_; (try dsimp only at hc); cbv) | (refine AllS.mk fun r hr => ?_; (try simp only [Dat.ok, Dat.dec, Leaf.ok, Leaf.val, Port.eta, PortOp.eta, PortAns.eta, val_sl] at hr); cbv)
  all_goals ((try dsimp only at *); (try simp only [nc, Int.toNat_natCast, Bool.not_eq_true', Bool.not_eq_false', decide_eq_true_eq, decide_eq_false_iff_not, beq_iff_eq, beq_eq_false_iff_ne, ba_inj, bne_iff_ne, ne_eq, Bool.and_eq_true, Bool.or_eq_true, Bool.and_eq_false_iff, Bool.or_eq_false_iff, Int.not_le, Int.not_lt, Nat.not_le, Nat.not_lt] at *); (try simp only [nc] at *))
  all_goals try rw [nc] at *
  all_goals first
    | omega
    | exact ⟨by omega, by omega⟩
    | (unfold InR; omega)
    | (have hk2 : k < p.texts.length := by omega
       have hx : p.size < ((p.texts.getD k Dat.d0).size : Int) := by assumption
       exact fin _ _ _ (e2 (by omega) (.inr (lgB_hit hk2 hx))))
    | (have hk2 : k < p.texts.length := by omega
       have hx : ((p.texts.getD k Dat.d0).size : Int) ≤ p.size := by assumption
       refine ⟨⟨k + 1, by omega, lgB_snoc hk2 hr hx⟩, ?_, ?_, rfl, show p.texts.length - (k + 1) < p.texts.length - k by omega⟩
       · cbv
         repeat' first | (refine Stp.mk ?_; cbv) | (refine Gen.mk fun r hr => ?_; (try simp only [Dat.ok, Dat.dec, Leaf.ok, Leaf.val, Port.eta, PortOp.eta, PortAns.eta, val_sl, val_nil] at hr); cbv) | exact trivial | rfl | refine Both.mk ?_ ?_ | (refine Imp.mk fun h => ?_; (try dsimp only at h); (try simp only [nc, Int.toNat_natCast, Bool.not_eq_true', Bool.not_eq_false', decide_eq_true_eq, decide_eq_false_iff_not, beq_iff_eq, beq_eq_false_iff_ne, ba_inj, bne_iff_ne, ne_eq, Bool.and_eq_true, Bool.or_eq_true, Bool.and_eq_false_iff, Bool.or_eq_false_iff, Int.not_le, Int.not_lt, Nat.not_le, Nat.not_lt] at h); (try simp only [nc] at h)) | refine Ob.mk ?_ ?_ | refine Chk.mk (by kernel_rfl) ?_ | refine Eq'.mk ?_ | (refine AllN.mk fun i hi => ?_; cbv) | (refine AllC.mk fun c hc hcm => ?_; (try dsimp only at hc); cbv) | (refine AllS.mk fun r hr => ?_; (try simp only [Dat.ok, Dat.dec, Leaf.ok, Leaf.val, Port.eta, PortOp.eta, PortAns.eta, val_sl] at hr); cbv)
       · cbv
         repeat' first | (refine Stp.mk ?_; cbv) | (refine Gen.mk fun r hr => ?_; (try simp only [Dat.ok, Dat.dec, Leaf.ok, Leaf.val, Port.eta, PortOp.eta, PortAns.eta, val_sl, val_nil] at hr); cbv) | exact trivial | rfl | refine Both.mk ?_ ?_ | (refine Imp.mk fun h => ?_; (try dsimp only at h); (try simp only [nc, Int.toNat_natCast, Bool.not_eq_true', Bool.not_eq_false', decide_eq_true_eq, decide_eq_false_iff_not, beq_iff_eq, beq_eq_false_iff_ne, ba_inj, bne_iff_ne, ne_eq, Bool.and_eq_true, Bool.or_eq_true, Bool.and_eq_false_iff, Bool.or_eq_false_iff, Int.not_le, Int.not_lt, Nat.not_le, Nat.not_lt] at h); (try simp only [nc] at h)) | refine Ob.mk ?_ ?_ | refine Chk.mk (by kernel_rfl) ?_ | refine Eq'.mk ?_ | (refine AllN.mk fun i hi => ?_; cbv) | (refine AllC.mk fun c hc hcm => ?_; (try dsimp only at hc); cbv) | (refine AllS.mk fun r hr => ?_; (try simp only [Dat.ok, Dat.dec, Leaf.ok, Leaf.val, Port.eta, PortOp.eta, PortAns.eta, val_sl] at hr); cbv))
    | skip
  all_goals have hlg : lgB p.size p.texts = false := (by rw [List.take_of_length_le (by omega)] at hr; exact hr)
  all_goals have hno : ¬ (p.room < p.texts.length ∨ lgB p.size p.texts = true) := (by rw [hlg]; intro q; rcases q with q | q; omega; cases q)
  all_goals first
    | exact fin _ _ _ (e3 (by omega) hno (by omega))
    | exact fin _ _ _ (e4 (by omega) hno (by omega))
    | fail
theorem pchk_ok : PcOk Try.prog 11 (detPC pchk_D) := det_okA fun A p r h hp0 => by
  unfold pchk_D at h
  split at h
  · rename_i p
    cases h
    obtain ⟨g0, hp⟩ := hp0
    exact ⟨rfl, FnOk.pre (A' := [.agg (Dat.enc fun _ => (Dat.dec p : Port))]) (pchk_vc (Dat.dec p) hp) (.mk (Dat.hle _ g0) (trivial))⟩
  · cases h
def mayV (p : Port) (now : Int) : Int := if pchkV p = 0 then (if now < p.at_ ∨ 1099511627776 < now then 1 else 0) else pchkV p
def may_R (r : Th (Int)) : AV := .i .i64 fun _ => (r ())
def may_P (p : Port) (now : Int) : Prop := p.texts.length ≤ 9223372036854775807
def may_D : Det := fun A => match A with
  | [.agg p, .i .i64 now] => some (fun _ => Dat.ok Port p ∧ may_P (Dat.dec p) (now ()), may_R fun _ => mayV (Dat.dec p) (now ()))
  | _ => none
noncomputable def cMay : FuncId → Con := fun f => match f with
  | 11 => pureCon (detPC pchk_D)
  | _ => fun _ _ _ => Bad 1001
theorem cMay_ok : ConOk Try.prog cMay := fun f A H K h => by
  unfold cMay at h
  split at h
  · exact ⟨⟨Try.f11, Try.func11, by kernel_rfl, by kernel_rfl⟩, pureCon_ok pchk_ok h⟩
  · cases h
set_option maxRecDepth 100000 in
set_option maxHeartbeats 4000000 in
theorem may_vc (p : Port) (now : Int) (hp : may_P p now) : FnOk Try.prog 18 [.agg (Dat.enc fun _ => p), .i .i64 fun _ => now] [] (outA (may_R fun _ => mayV p now) []) := by
  refine fn_ok envOk zl cMay_ok noDraws_ok (keep := [0, 1, 2, 4, 5, 9, 18]) Try.func18 rfl ?_
  have hp' : p.texts.length ≤ 9223372036854775807 := hp
  have fin : ∀ (e : Int) H kl, mayV p now = e → outA (may_R fun _ => mayV p now) [] (.i .i64 fun _ => e) H kl := fun e H kl h => by
    rw [h]
    cbv
    repeat' first | (refine Stp.mk ?_; cbv) | (refine Gen.mk fun r hr => ?_; (try simp only [Dat.ok, Dat.dec, Leaf.ok, Leaf.val, Port.eta, PortOp.eta, PortAns.eta, val_sl, val_nil] at hr); cbv) | exact trivial | rfl | refine Both.mk ?_ ?_ | (refine Imp.mk fun h => ?_; (try dsimp only at h); (try simp only [nc, Int.toNat_natCast, Bool.not_eq_true', Bool.not_eq_false', decide_eq_true_eq, decide_eq_false_iff_not, beq_iff_eq, beq_eq_false_iff_ne, ba_inj, bne_iff_ne, ne_eq, Bool.and_eq_true, Bool.or_eq_true, Bool.and_eq_false_iff, Bool.or_eq_false_iff, Int.not_le, Int.not_lt, Nat.not_le, Nat.not_lt] at h); (try simp only [nc] at h)) | refine Ob.mk ?_ ?_ | refine Chk.mk (by kernel_rfl) ?_ | refine Eq'.mk ?_ | (refine AllN.mk fun i hi => ?_; cbv) | (refine AllC.mk fun c hc hcm => ?_; (try dsimp only at hc); cbv) | (refine AllS.mk fun r hr => ?_; (try simp only [Dat.ok, Dat.dec, Leaf.ok, Leaf.val, Port.eta, PortOp.eta, PortAns.eta, val_sl] at hr); cbv)
  generalize outA (may_R fun _ => mayV p now) [] = K at fin ⊢
  cbv
  repeat' first | (show Stp _; exfalso; first | omega | (exact h ‹_›) | (exact absurd ‹_› h) | (exact Bool.false_ne_true (h.symm.trans (show _ = true by assumption)))) | (refine Stp.mk ?_; cbv) | (refine Gen.mk fun r hr => ?_; (try simp only [Dat.ok, Dat.dec, Leaf.ok, Leaf.val, Port.eta, PortOp.eta, PortAns.eta, val_sl, val_nil] at hr); cbv) | exact trivial | rfl | refine Both.mk ?_ ?_ | (refine Imp.mk fun h => ?_; (try dsimp only at h); (try simp only [nc, Int.toNat_natCast, Bool.not_eq_true', Bool.not_eq_false', decide_eq_true_eq, decide_eq_false_iff_not, beq_iff_eq, beq_eq_false_iff_ne, ba_inj, bne_iff_ne, ne_eq, Bool.and_eq_true, Bool.or_eq_true, Bool.and_eq_false_iff, Bool.or_eq_false_iff, Int.not_le, Int.not_lt, Nat.not_le, Nat.not_lt] at h); (try simp only [nc] at h)) | refine Ob.mk ?_ ?_ | refine Chk.mk (by kernel_rfl) ?_ | refine Eq'.mk ?_ | (refine AllN.mk fun i hi => ?_; cbv) | (refine AllC.mk fun c hc hcm => ?_; (try dsimp only at hc); cbv) | (refine AllS.mk fun r hr => ?_; (try simp only [Dat.ok, Dat.dec, Leaf.ok, Leaf.val, Port.eta, PortOp.eta, PortAns.eta, val_sl] at hr); cbv)
  all_goals ((try dsimp only at *); (try simp only [nc, Int.toNat_natCast, Bool.not_eq_true', Bool.not_eq_false', decide_eq_true_eq, decide_eq_false_iff_not, beq_iff_eq, beq_eq_false_iff_ne, ba_inj, bne_iff_ne, ne_eq, Bool.and_eq_true, Bool.or_eq_true, Bool.and_eq_false_iff, Bool.or_eq_false_iff, Int.not_le, Int.not_lt, Nat.not_le, Nat.not_lt] at *); (try simp only [nc] at *))
  all_goals try simp only [Dat.dec, Leaf.val, Port.eta, PortOp.eta, PortAns.eta, val_sl] at *
  all_goals first
    | exact ⟨⟨trivial, trivial, trivial, trivial, ⟨rfl, fun i _ => Dat.hok _⟩, trivial⟩, hp'⟩
    | (refine fin _ _ _ ?_; rw [mayV, if_neg (by assumption)]; done)
    | (refine fin _ _ _ ?_; rw [mayV, if_pos (by assumption), if_pos (by omega)]; done)
    | (refine fin _ _ _ ?_; rw [mayV, if_pos (by assumption), if_neg (by omega)]; done)
    | fail
theorem may_ok : PcOk Try.prog 18 (detPC may_D) := det_okA fun A p r h hp0 => by
  unfold may_D at h
  split at h
  · rename_i p now
    cases h
    obtain ⟨g0, hp⟩ := hp0
    exact ⟨rfl, FnOk.pre (A' := [.agg (Dat.enc fun _ => (Dat.dec p : Port)), .i .i64 fun _ => now ()]) (may_vc (Dat.dec p) (now ()) hp) (.mk (Dat.hle _ g0) (.mk (.mk (.mk rfl) (.mk rfl)) (trivial)))⟩
  · cases h
def noP : Port := ⟨0, 0, 0, 0, [], 0⟩
def wr1 (p : Port) (s : ByteArray) (now : Int) : Int := if mayV p now = 0 then (if p.size < s.size then 2 else if p.kind = 2 ∧ (p.texts.length : Int) = p.room then 6 else 0) else mayV p now
def wrP (p : Port) (s : ByteArray) (now : Int) : Port := if p.kind = 1 then { p with texts := [s], at_ := now } else { p with texts := p.texts ++ [s] }
def writeV (p : Port) (s : ByteArray) (now : Int) : Port × Int := if wr1 p s now = 0 then (wrP p s now, 0) else (noP, wr1 p s now)
theorem may_kind {p : Port} {now : Int} (h : mayV p now = 0) : pkB p = true ∧ 1 ≤ p.size ∧ p.size ≤ 4096 ∧ (p.texts.length : Int) ≤ p.room ∧ lgB p.size p.texts = false ∧ 0 ≤ p.at_ ∧ p.at_ ≤ now ∧ now ≤ 1099511627776 ∧ (0 < p.at_ → p.texts.length ≠ 0 ∧ p.kind ≠ 2) := by
  unfold mayV at h
  by_cases h0 : pchkV p = 0
  · rw [if_pos h0] at h
    by_cases h1 : now < p.at_ ∨ 1099511627776 < now
    · rw [if_pos h1] at h; cases h
    · unfold pchkV at h0
      by_cases h2 : ¬ (pkB p = true ∧ 1 ≤ p.size ∧ p.size ≤ 4096)
      · rw [if_pos h2] at h0; cases h0
      · rw [if_neg h2] at h0
        by_cases h3 : p.room < p.texts.length ∨ lgB p.size p.texts = true
        · rw [if_pos h3] at h0; cases h0
        · rw [if_neg h3] at h0
          by_cases h4 : p.at_ < 0 ∨ 1099511627776 < p.at_ ∨ 0 < p.at_ ∧ (p.texts.length = 0 ∨ p.kind = 2)
          · rw [if_pos h4] at h0; cases h0
          · have h2 := Decidable.not_not.1 h2
            have h5 : lgB p.size p.texts = false := by
              cases hq : lgB p.size p.texts with
              | false => rfl
              | true => exact absurd (.inr hq) h3
            exact ⟨h2.1, h2.2.1, h2.2.2, by omega, h5, by omega, by omega, by omega, by omega⟩
  · rw [if_neg h0] at h; exact absurd h h0
def clStr_R (r : Th ((List ByteArray))) : AV := .own 0 fun _ => (r ()).length
def clStr_H (r : Th ((List ByteArray))) : Hp := [vecO 9 fun _ => (r ())]
def clStr_P (l : (List ByteArray)) : Prop := l.length ≤ 1099511627776
def clStr_C : PC := fun A K => match A with
  | [l] => Ob (fun _ => Leaf.ok (List ByteArray) l ∧ clStr_P (Leaf.val l)) (Gen (α := (List ByteArray)) (fun _ => (Leaf.val l)) fun r => K (clStr_R fun _ => r) (clStr_H fun _ => r))
  | _ => Bad 1002
set_option maxRecDepth 100000 in
set_option maxHeartbeats 4000000 in
theorem clStr_vc (l : (List ByteArray)) (hp : clStr_P l) : FnOk Try.prog 12 [Leaf.av fun _ => l] [] (outA (clStr_R fun _ => l) (clStr_H fun _ => l)) := by
  refine fn_ok envOk zl noCon_ok noDraws_ok (keep := [0, 2, 4]) Try.func12 rfl ?_
  have hp' : l.length ≤ 1099511627776 := hp
  cbv
  repeat' first | (refine Stp.mk ?_; cbv) | (refine Gen.mk fun r hr => ?_; (try simp only [Dat.ok, Dat.dec, Leaf.ok, Leaf.val, Port.eta, PortOp.eta, PortAns.eta, val_sl, val_nil] at hr); cbv) | exact trivial | rfl | refine Both.mk ?_ ?_ | (refine Imp.mk fun h => ?_; (try dsimp only at h); (try simp only [nc, Int.toNat_natCast, Bool.not_eq_true', Bool.not_eq_false', decide_eq_true_eq, decide_eq_false_iff_not, beq_iff_eq, beq_eq_false_iff_ne, ba_inj, bne_iff_ne, ne_eq, Bool.and_eq_true, Bool.or_eq_true, Bool.and_eq_false_iff, Bool.or_eq_false_iff, Int.not_le, Int.not_lt, Nat.not_le, Nat.not_lt] at h); (try simp only [nc] at h)) | refine Ob.mk ?_ ?_ | refine Chk.mk (by kernel_rfl) ?_ | refine Eq'.mk ?_ | (refine AllN.mk fun i hi => ?_; cbv) | (refine AllC.mk fun c hc hcm => ?_; (try dsimp only at hc); cbv) | (refine AllS.mk fun r hr => ?_; (try simp only [Dat.ok, Dat.dec, Leaf.ok, Leaf.val, Port.eta, PortOp.eta, PortAns.eta, val_sl] at hr); cbv)
  all_goals ((try dsimp only at *); (try simp only [nc, Int.toNat_natCast, Bool.not_eq_true', Bool.not_eq_false', decide_eq_true_eq, decide_eq_false_iff_not, beq_iff_eq, beq_eq_false_iff_ne, ba_inj, bne_iff_ne, ne_eq, Bool.and_eq_true, Bool.or_eq_true, Bool.and_eq_false_iff, Bool.or_eq_false_iff, Int.not_le, Int.not_lt, Nat.not_le, Nat.not_lt] at *); (try simp only [nc] at *))
  all_goals first
    | omega
    | (exact ⟨Nat.le_refl _, trivial, by omega, by omega⟩)
    | (simp only [Nat.zero_add, Nat.sub_zero, Nat.not_lt_zero, decide_false, cond_false]; done)
    | (simp_all; done)
    | fail
theorem clStr_ok : PcOk Try.prog 12 (clStr_C) := fun A K h => by
  unfold clStr_C at h
  split at h
  · rename_i l
    cases h with
    | mk h1 h2 =>
      obtain ⟨g0, hp⟩ := h1
      refine FnOk.pre ?_ (A' := [Leaf.av fun _ => (Leaf.val l : (List ByteArray))]) (.mk (Leaf.hle _ g0) (trivial))
      exact FnOk.out (K := fun r H _ => K r H) (clStr_vc (Leaf.val l) hp) rfl h2.out
  · cases h
def write_R (r : Th (Port × Int)) : AV := .tup [.agg [.i .i64 fun _ => (r ()).1.kind, .i .i64 fun _ => (r ()).1.size, .i .i64 fun _ => (r ()).1.room, .i .i64 fun _ => (r ()).1.fresh, .own 0 fun _ => (r ()).1.texts.length, .i .i64 fun _ => (r ()).1.at_], .i .i64 fun _ => (r ()).2]
def write_H (r : Th (Port × Int)) : Hp := [vecO 9 fun _ => (r ()).1.texts]
def write_P (p : Port) (s : ByteArray) (now : Int) : Prop := p.texts.length ≤ 9223372036854775807
def write_C : PC := fun A K => match A with
  | [.agg p, .s s, .i .i64 now] => Ob (fun _ => Dat.ok Port p ∧ write_P (Dat.dec p) (s ()) (now ())) (Gen (α := Port × Int) (fun _ => writeV (Dat.dec p) (s ()) (now ())) fun r => K (write_R fun _ => r) (write_H fun _ => r))
  | _ => Bad 1002
noncomputable def cWq : FuncId → Con := fun f => match f with
  | 12 => pureCon clStr_C
  | _ => fun _ _ _ => Bad 1001
theorem cWq_ok : ConOk Try.prog cWq := fun f A H K h => by
  unfold cWq at h
  split at h
  · exact ⟨⟨Try.f12, Try.func12, by kernel_rfl, by kernel_rfl⟩, pureCon_ok clStr_ok h⟩
  · cases h
def dWq : FuncId → Option Dt := fun f => match f with
  | _ => none
theorem dWq_ok : DetOk Try.prog dWq := fun f d h => by
  unfold dWq at h
  split at h
  · cases h
noncomputable def cWr : FuncId → Con := fun f => match f with
  | 18 => pureCon (detPC may_D)
  | 15 => inlCon E noCon noDraws [0, 1, 2, 3, 5, 6, 10] Try.f15
  | 37 => inlCon E noCon noDraws [0, 1, 2, 3, 8] Try.f37
  | 40 => inlCon E cWq (draws E dWq) [0, 1, 2, 8, 18] Try.f40
  | _ => fun _ _ _ => Bad 1001
theorem cWr_ok : ConOk Try.prog cWr := fun f A H K h => by
  unfold cWr at h
  split at h
  · exact ⟨⟨Try.f18, Try.func18, by kernel_rfl, by kernel_rfl⟩, pureCon_ok may_ok h⟩
  · exact ⟨⟨Try.f15, Try.func15, by kernel_rfl, by kernel_rfl⟩, inl_ok envOk zl noCon_ok noDraws_ok Try.func15 h⟩
  · exact ⟨⟨Try.f37, Try.func37, by kernel_rfl, by kernel_rfl⟩, inl_ok envOk zl noCon_ok noDraws_ok Try.func37 h⟩
  · exact ⟨⟨Try.f40, Try.func40, by kernel_rfl, by kernel_rfl⟩, inl_ok envOk zl cWq_ok (draws_ok envOk zl dWq_ok mixed) Try.func40 h⟩
  · cases h
set_option maxRecDepth 100000 in
set_option maxHeartbeats 4000000 in
theorem write_vc (p : Port) (s : ByteArray) (now : Int) (hp : write_P p s now) : FnOk Try.prog 13 [.agg (Dat.enc fun _ => p), .s fun _ => s, .i .i64 fun _ => now] [] (outA (write_R fun _ => writeV p s now) (write_H fun _ => writeV p s now)) := by
  refine fn_ok envOk zl cWr_ok noDraws_ok (keep := [0, 1, 2, 3, 6, 7, 8, 9, 22, 24, 35]) Try.func13 rfl ?_
  have hp' : p.texts.length ≤ 9223372036854775807 := hp
  have fin0 : ∀ (e : Int) kl H, writeV p s now = (noP, e) → outA (write_R fun _ => writeV p s now) (write_H fun _ => writeV p s now) (.tup [.agg [.i .i64 fun _ => 0, .i .i64 fun _ => 0, .i .i64 fun _ => 0, .i .i64 fun _ => 0, .nil, .i .i64 fun _ => 0], .i .i64 fun _ => e]) H kl := fun e kl H h => by
    rw [h]
    cbv
    repeat' first | (refine Stp.mk ?_; cbv) | (refine Gen.mk fun r hr => ?_; (try simp only [Dat.ok, Dat.dec, Leaf.ok, Leaf.val, Port.eta, PortOp.eta, PortAns.eta, val_sl, val_nil] at hr); cbv) | exact trivial | rfl | refine Both.mk ?_ ?_ | (refine Imp.mk fun h => ?_; (try dsimp only at h); (try simp only [nc, Int.toNat_natCast, Bool.not_eq_true', Bool.not_eq_false', decide_eq_true_eq, decide_eq_false_iff_not, beq_iff_eq, beq_eq_false_iff_ne, ba_inj, bne_iff_ne, ne_eq, Bool.and_eq_true, Bool.or_eq_true, Bool.and_eq_false_iff, Bool.or_eq_false_iff, Int.not_le, Int.not_lt, Nat.not_le, Nat.not_lt] at h); (try simp only [nc] at h)) | refine Ob.mk ?_ ?_ | refine Chk.mk (by kernel_rfl) ?_ | refine Eq'.mk ?_ | (refine AllN.mk fun i hi => ?_; cbv) | (refine AllC.mk fun c hc hcm => ?_; (try dsimp only at hc); cbv) | (refine AllS.mk fun r hr => ?_; (try simp only [Dat.ok, Dat.dec, Leaf.ok, Leaf.val, Port.eta, PortOp.eta, PortAns.eta, val_sl] at hr); cbv)
    all_goals first | rfl | (exfalso; omega)
  generalize hK : outA (write_R fun _ => writeV p s now) (write_H fun _ => writeV p s now) = K at fin0 ⊢
  cbv
  repeat' first | (show Stp _; exfalso; first | omega | (exact h ‹_›) | (exact absurd ‹_› h) | (exact Bool.false_ne_true (h.symm.trans (show _ = true by assumption)))) | (refine Stp.mk ?_; cbv) | (refine Gen.mk fun r hr => ?_; (try simp only [Dat.ok, Dat.dec, Leaf.ok, Leaf.val, Port.eta, PortOp.eta, PortAns.eta, val_sl, val_nil] at hr); cbv) | exact trivial | rfl | refine Both.mk ?_ ?_ | (refine Imp.mk fun h => ?_; (try dsimp only at h); (try simp only [nc, Int.toNat_natCast, Bool.not_eq_true', Bool.not_eq_false', decide_eq_true_eq, decide_eq_false_iff_not, beq_iff_eq, beq_eq_false_iff_ne, ba_inj, bne_iff_ne, ne_eq, Bool.and_eq_true, Bool.or_eq_true, Bool.and_eq_false_iff, Bool.or_eq_false_iff, Int.not_le, Int.not_lt, Nat.not_le, Nat.not_lt] at h); (try simp only [nc] at h)) | refine Ob.mk ?_ ?_ | refine Chk.mk (by kernel_rfl) ?_ | refine Eq'.mk ?_ | (refine AllN.mk fun i hi => ?_; cbv) | (refine AllC.mk fun c hc hcm => ?_; (try dsimp only at hc); cbv) | (refine AllS.mk fun r hr => ?_; (try simp only [Dat.ok, Dat.dec, Leaf.ok, Leaf.val, Port.eta, PortOp.eta, PortAns.eta, val_sl] at hr); cbv)
  all_goals ((try dsimp only at *); (try simp only [nc, Int.toNat_natCast, Bool.not_eq_true', Bool.not_eq_false', decide_eq_true_eq, decide_eq_false_iff_not, beq_iff_eq, beq_eq_false_iff_ne, ba_inj, bne_iff_ne, ne_eq, Bool.and_eq_true, Bool.or_eq_true, Bool.and_eq_false_iff, Bool.or_eq_false_iff, Int.not_le, Int.not_lt, Nat.not_le, Nat.not_lt] at *); (try simp only [nc] at *))
  all_goals try simp only [Dat.dec, Leaf.val, Port.eta, PortOp.eta, PortAns.eta, val_sl] at *
  all_goals first
    | exact ⟨⟨trivial, trivial, trivial, trivial, ⟨rfl, fun i _ => Dat.hok _⟩, trivial⟩, hp'⟩
    | (exfalso; exact absurd trivial (by assumption))
    | (have h1 : ¬ mayV p now = 0 := by assumption
       have hw : wr1 p s now = mayV p now := by rw [wr1, if_neg h1]
       refine fin0 _ _ _ ?_
       rw [writeV, hw, if_neg h1]
       done)
    | (have h1 : mayV p now = 0 := by assumption
       have hw : wr1 p s now = 2 := by rw [wr1, if_pos h1, if_pos (by assumption)]
       refine fin0 _ _ _ ?_
       rw [writeV, hw, if_neg (by decide)]
       done)
    | (have h1 : mayV p now = 0 := by assumption
       have h2 : p.kind = 2 := by assumption
       have h3 : (p.texts.length : Int) = p.room := by assumption
       have hw : wr1 p s now = 6 := by rw [wr1, if_pos h1, if_neg (by omega), if_pos ⟨h2, h3⟩]
       refine fin0 _ _ _ ?_
       rw [writeV, hw, if_neg (by decide)]
       done)
    | skip
  all_goals have hm := may_kind (by assumption : mayV p now = 0)
  all_goals have hkB := pkB_iff.1 hm.1
  all_goals first
    | (exfalso; omega)
    | exact ⟨⟨rfl, fun i _ => Dat.hok _⟩, show _ ≤ _ by omega⟩
    | skip
  all_goals try (rename (_ = p.texts) => hq3; subst hq3)
  all_goals first
    | exact ⟨Nat.le_refl _, Nat.le_refl _, by omega, by omega⟩
    | exact ⟨Nat.le_refl _, trivial, by omega, by omega⟩
    | (have h1 : mayV p now = 0 := by assumption
       have h2 : p.kind = 1 := by assumption
       have hw : wr1 p s now = 0 := by rw [wr1, if_pos h1, if_neg (by omega), if_neg (by omega)]
       have hw2 : writeV p s now = ({ p with texts := [s], at_ := now }, 0) := by rw [writeV, hw, if_pos rfl, wrP, if_pos h2]
       rw [← hK, hw2]
       cbv
       repeat' first | (refine Stp.mk ?_; cbv) | (refine Gen.mk fun r hr => ?_; (try simp only [Dat.ok, Dat.dec, Leaf.ok, Leaf.val, Port.eta, PortOp.eta, PortAns.eta, val_sl, val_nil] at hr); cbv) | exact trivial | rfl | refine Both.mk ?_ ?_ | (refine Imp.mk fun h => ?_; (try dsimp only at h); (try simp only [nc, Int.toNat_natCast, Bool.not_eq_true', Bool.not_eq_false', decide_eq_true_eq, decide_eq_false_iff_not, beq_iff_eq, beq_eq_false_iff_ne, ba_inj, bne_iff_ne, ne_eq, Bool.and_eq_true, Bool.or_eq_true, Bool.and_eq_false_iff, Bool.or_eq_false_iff, Int.not_le, Int.not_lt, Nat.not_le, Nat.not_lt] at h); (try simp only [nc] at h)) | refine Ob.mk ?_ ?_ | refine Chk.mk (by kernel_rfl) ?_ | refine Eq'.mk ?_ | (refine AllN.mk fun i hi => ?_; cbv) | (refine AllC.mk fun c hc hcm => ?_; (try dsimp only at hc); cbv) | (refine AllS.mk fun r hr => ?_; (try simp only [Dat.ok, Dat.dec, Leaf.ok, Leaf.val, Port.eta, PortOp.eta, PortAns.eta, val_sl] at hr); cbv)
       all_goals ((try dsimp only at *); (try simp only [nc, Int.toNat_natCast, Bool.not_eq_true', Bool.not_eq_false', decide_eq_true_eq, decide_eq_false_iff_not, beq_iff_eq, beq_eq_false_iff_ne, ba_inj, bne_iff_ne, ne_eq, Bool.and_eq_true, Bool.or_eq_true, Bool.and_eq_false_iff, Bool.or_eq_false_iff, Int.not_le, Int.not_lt, Nat.not_le, Nat.not_lt] at *); (try simp only [nc] at *))
       all_goals first
         | rfl
         | (have hi0 : i = 0 := by (have q : i < 1 := by assumption); omega
            subst hi0; rfl)
         | fail)
    | (have h1 : mayV p now = 0 := by assumption
       have h2 : ¬ p.kind = 1 := by assumption
       have h3 : ¬ (p.texts.length : Int) = p.room := by assumption
       have hw : wr1 p s now = 0 := by rw [wr1, if_pos h1, if_neg (by omega), if_neg (fun q => h3 q.2)]
       have hw2 : writeV p s now = ({ p with texts := p.texts ++ [s] }, 0) := by rw [writeV, hw, if_pos rfl, wrP, if_neg h2]
       rw [← hK, hw2]
       cbv
       repeat' first | (refine Stp.mk ?_; cbv) | (refine Gen.mk fun r hr => ?_; (try simp only [Dat.ok, Dat.dec, Leaf.ok, Leaf.val, Port.eta, PortOp.eta, PortAns.eta, val_sl, val_nil] at hr); cbv) | exact trivial | rfl | refine Both.mk ?_ ?_ | (refine Imp.mk fun h => ?_; (try dsimp only at h); (try simp only [nc, Int.toNat_natCast, Bool.not_eq_true', Bool.not_eq_false', decide_eq_true_eq, decide_eq_false_iff_not, beq_iff_eq, beq_eq_false_iff_ne, ba_inj, bne_iff_ne, ne_eq, Bool.and_eq_true, Bool.or_eq_true, Bool.and_eq_false_iff, Bool.or_eq_false_iff, Int.not_le, Int.not_lt, Nat.not_le, Nat.not_lt] at h); (try simp only [nc] at h)) | refine Ob.mk ?_ ?_ | refine Chk.mk (by kernel_rfl) ?_ | refine Eq'.mk ?_ | (refine AllN.mk fun i hi => ?_; cbv) | (refine AllC.mk fun c hc hcm => ?_; (try dsimp only at hc); cbv) | (refine AllS.mk fun r hr => ?_; (try simp only [Dat.ok, Dat.dec, Leaf.ok, Leaf.val, Port.eta, PortOp.eta, PortAns.eta, val_sl] at hr); cbv)
       all_goals ((try dsimp only at *); (try simp only [nc, Int.toNat_natCast, Bool.not_eq_true', Bool.not_eq_false', decide_eq_true_eq, decide_eq_false_iff_not, beq_iff_eq, beq_eq_false_iff_ne, ba_inj, bne_iff_ne, ne_eq, Bool.and_eq_true, Bool.or_eq_true, Bool.and_eq_false_iff, Bool.or_eq_false_iff, Int.not_le, Int.not_lt, Nat.not_le, Nat.not_lt] at *); (try simp only [nc] at *))
       all_goals first
         | (rw [List.length_append, List.length_singleton]; done)
         | (rw [gd_snoc _ _ _ _ (by assumption)]; done)
         | (rw [gd_snoc _ _ _ _ (by assumption)]; cases decide (i < p.texts.length) <;> rfl)
         | fail)
    | fail
theorem write_ok : PcOk Try.prog 13 (write_C) := fun A K h => by
  unfold write_C at h
  split at h
  · rename_i p s now
    cases h with
    | mk h1 h2 =>
      obtain ⟨g0, hp⟩ := h1
      refine FnOk.pre ?_ (A' := [.agg (Dat.enc fun _ => (Dat.dec p : Port)), .s fun _ => s (), .i .i64 fun _ => now ()]) (.mk (Dat.hle _ g0) (.mk (.mk rfl) (.mk (.mk (.mk rfl) (.mk rfl)) (trivial))))
      exact FnOk.out (K := fun r H _ => K r H) (write_vc (Dat.dec p) (s ()) (now ()) hp) rfl h2.out
  · cases h

end Go.Proofs.Ythojlodlfgagmaa
