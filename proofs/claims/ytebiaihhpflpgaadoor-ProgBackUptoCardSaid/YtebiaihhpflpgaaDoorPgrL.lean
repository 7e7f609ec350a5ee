/- progLives: three instructions. -/
import Derived.Test.YtebiaihhpflpgaaDoorPgrQ
set_option linter.all false
namespace Go.Proofs.YtebiaihhpflpgaaDoor
open Go Go.Abs

set_option maxRecDepth 100000 in
theorem live_a : parseV (⟨⟨[105, 110, 32, 114, 48, 32, 59, 32, 119, 104, 97, 116, 32, 99, 111, 109, 101, 115, 10, 10, 32, 111, 117, 116, 32, 32, 114, 48, 32, 51, 10, 108, 101, 115, 115, 32, 114, 55, 32, 48]⟩⟩) = ([⟨9, 0, 0⟩, ⟨10, 0, 3⟩, ⟨8, 7, 0⟩], 0, 0) := by decide +kernel
set_option maxRecDepth 100000 in
theorem live_b : printV [⟨9, 0, 0⟩, ⟨10, 0, 3⟩, ⟨8, 7, 0⟩] = (⟨⟨[105, 110, 32, 114, 48, 10, 111, 117, 116, 32, 114, 48, 32, 51, 10, 108, 101, 115, 115, 32, 114, 55, 32, 48, 10]⟩⟩, 0) := by decide +kernel
set_option maxRecDepth 100000 in
theorem live_c : parseV (⟨⟨[104, 97, 108, 116, 10, 104, 97, 108, 116, 32, 114, 48, 10]⟩⟩) = ([], 1, 10) := by decide +kernel
noncomputable def cPli : FuncId → Con := fun f => match f with
  | 6 => pureCon (detPC printC_D)
  | 7 => pureCon parseC2_C
  | _ => fun _ _ _ => Bad 1001
theorem cPli_ok : ConOk Tryd.prog cPli := fun f A H K h => by
  unfold cPli at h
  split at h
  · exact ⟨⟨Tryd.f6, Tryd.func6, by kernel_rfl, by kernel_rfl⟩, pureCon_ok printC_ok h⟩
  · exact ⟨⟨Tryd.f7, Tryd.func7, by kernel_rfl, by kernel_rfl⟩, pureCon_ok parseC2_ok h⟩
  · cases h
def plives_R (r : Th (Bool)) : AV := .bc true
def plives_D : Det := fun A => match A with
  | [] => some (fun _ => True, plives_R fun _ => true )
  | _ => none
set_option maxRecDepth 100000 in
set_option maxHeartbeats 4000000 in
theorem plives_vc  : FnOk Tryd.prog 9 [] [] (outA (plives_R fun _ => true ) []) := by
  refine fn_ok envOk zl cPli_ok noDraws_ok (keep := [0, 1, 2, 3, 4, 5, 7, 8]) Tryd.func9 rfl ?_
  have fin := @fin_b
  have finc := @fin_t
  generalize hK : outA (plives_R fun _ => true) [] = K at *
  have fin2 : outA (.bc true) [] = K := hK
  rw [fin2] at fin finc
  cbv
  repeat' first | (show Stp _; exfalso; first | omega | (exact h ‹_›) | (exact absurd ‹_› h) | (exact Bool.false_ne_true (h.symm.trans (show _ = true by assumption)))) | (refine Stp.mk ?_; cbv) | (refine Gen.mk fun r hr => ?_; (try simp only [Dat.ok, Dat.dec, Leaf.ok, Leaf.val, Z0, Z1, val_sl, val_nil] at hr); cbv) | exact trivial | rfl | refine Both.mk ?_ ?_ | (refine Imp.mk fun h => ?_; (try dsimp only at h); (try simp only [nc, Int.toNat_natCast, ne_eq, zz] at h); (try simp only [nc] at h)) | refine Ob.mk ?_ ?_ | refine Chk.mk (by kernel_rfl) ?_ | refine Eq'.mk ?_ | (refine AllN.mk fun i hi => ?_; cbv) | (refine AllC.mk fun c hc hcm => ?_; (try dsimp only at hc); cbv) | (refine AllS.mk fun r hr => ?_; (try simp only [Dat.ok, Dat.dec, Leaf.ok, Leaf.val, Z0, Z1, val_sl] at hr); cbv)
  all_goals ((try dsimp only at *); (try simp only [nc, Int.toNat_natCast, ne_eq, zz] at *); (try simp only [nc] at *))
  all_goals try simp only [Dat.dec, Leaf.val, Z0, Z1, val_sl] at *
  all_goals try exact Nat.le_refl _
  all_goals try simp only [live_a, live_c] at *
  all_goals try subst_vars
  all_goals try simp only [live_b] at *
  all_goals first
    | exact ⟨⟨rfl, fun i _ => Dat.hok _⟩, show _ ≤ _ by decide⟩
    | (exfalso; simp at *; done)
    | exact fin (beq_self_eq_true _)
    | fail
theorem plives_ok : PcOk Tryd.prog 9 (detPC plives_D) := det_okA fun A p r h hp0 => by
  unfold plives_D at h
  split at h
  · cases h
    exact ⟨rfl, FnOk.pre (A' := []) (plives_vc ) (trivial)⟩
  · cases h

end Go.Proofs.YtebiaihhpflpgaaDoor
