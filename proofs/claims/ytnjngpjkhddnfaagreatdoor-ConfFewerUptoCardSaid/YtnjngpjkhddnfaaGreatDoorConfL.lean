/- confLives: walked, and its plan. -/
import Derived.Test.YtnjngpjkhddnfaaGreatDoorConf3
import Derived.Test.YtnjngpjkhddnfaaGreatDoorConf4
set_option linter.all false
namespace Go.Proofs.YtnjngpjkhddnfaaGreatDoor
open Go Go.Abs

def plL : Plan := ⟨10, [⟨3, 0, 5, 10⟩], [⟨3, ⟨2, 10, 10⟩⟩]⟩
set_option maxRecDepth 100000
theorem live_a : readV ⟨⟨[102, 114, 97, 109, 101, 32, 49, 48, 10, 32, 35, 32, 104, 97, 108, 102, 32, 111, 102, 32, 105, 116, 10, 119, 97, 110, 116, 32, 51, 32, 48, 32, 53, 32, 49, 48, 10, 32, 106, 111, 98, 32, 32, 51, 32, 50, 32, 49, 48, 32, 49, 48, 10]⟩⟩ = (plL, 0, 0) := by decide +kernel
theorem live_m : makeV 10 [⟨3, 0, 5, 10⟩] = (⟨10, [⟨0, 5, 3⟩]⟩, 0) := by decide +kernel
theorem live_t : timesV ⟨10, [⟨0, 5, 3⟩]⟩ 3 = (⟨10, [⟨0, 5⟩]⟩, 0) := by decide +kernel
theorem live_f : (fitsV [⟨2, 10, 10⟩] ⟨10, [⟨0, 5⟩]⟩).1 = true ∧ (fitsV [⟨2, 10, 10⟩] ⟨10, [⟨0, 5⟩]⟩).2.2 = 0 := by decide +kernel
theorem live_j : (judgeV plL).2.2 = 0 ∧ (judgeV plL).1 = ⟨10, [⟨0, 5, 3⟩]⟩ ∧ (judgeV plL).2.1.length = 16 ∧ (judgeV plL).2.1.getD 3 Dat.d0 = true := by
 have e : judgeV plL = (⟨10, [⟨0, 5, 3⟩]⟩, outB plL ⟨10, [⟨0, 5, 3⟩]⟩ 16, 0) := by
   rw [judgeV, if_pos (by decide), show plL.frame = 10 from rfl, show plL.wants = [⟨3, 0, 5, 10⟩] from rfl, live_m, if_pos rfl]
 rw [e]
 refine ⟨rfl, rfl, out_len, ?_⟩
 have : (outB plL ⟨10, [⟨0, 5, 3⟩]⟩ 16).getD 3 Dat.d0 = fitB plL ⟨10, [⟨0, 5, 3⟩]⟩ 3 := rfl
 show (outB plL ⟨10, [⟨0, 5, 3⟩]⟩ 16).getD 3 Dat.d0 = true
 rw [this, fit_b (l := [⟨2, 10, 10⟩]) rfl (by decide) (by rw [live_t]; exact live_f.2), live_t]
 exact live_f.1
noncomputable def cCl : FuncId → Con := fun f => match f with
 | 17 => pureCon readC_C
 | 9 => pureCon judge_C
 | _ => fun _ _ _ => Bad 1001
theorem cCl_ok : ConOk Tryz.prog cCl := fun f A H K h => by
 unfold cCl at h
 split at h
 · exact ⟨⟨Tryz.f17, Tryz.func17, by kernel_rfl, by kernel_rfl⟩, pureCon_ok readC_ok h⟩
 · exact ⟨⟨Tryz.f9, Tryz.func9, by kernel_rfl, by kernel_rfl⟩, pureCon_ok judge_ok h⟩
 · cases h
def dCl : FuncId → Option Dt := fun f => match f with
 | _ => none
theorem dCl_ok : DetOk Tryz.prog dCl := fun f d h => by
 unfold dCl at h
 split at h
 · cases h
def clives_R (r : Th (Bool)) : AV := .bc true
def clives_D : Det := fun A => match A with
 | [] => some (fun _ => True, clives_R fun _ => true )
 | _ => none
set_option maxRecDepth 100000 in
set_option maxHeartbeats 4000000 in
theorem clives_vc  : FnOk Tryz.prog 10 [] [] (outA (clives_R fun _ => true ) []) := by
 refine fn_ok envOk zl cCl_ok (draws_ok envOk zl dCl_ok mixed) (keep := [0, 1, 2, 3, 4, 5, 6]) Tryz.func10 rfl ?_
 cbv
 repeat' first | (show Stp _; exfalso; first | omega | (exact h ‹_›) | (exact absurd ‹_› h) | (exact Bool.false_ne_true (h.symm.trans (show _ = true by assumption)))) | (refine Stp.mk ?_; cbv) | (refine Gen.mk fun r hr => ?_; (try simp only [Dat.ok, Dat.dec, Leaf.ok, Leaf.val, Z0, Z1, Z2, Z3, Z4, Z5, Z6, Z7, val_sl, val_nil] at hr); cbv) | exact trivial | rfl | refine Both.mk ?_ ?_ | (refine Imp.mk fun h => ?_; (try dsimp only at h); (try simp only [nc, Int.toNat_natCast, ne_eq, zz] at h); (try simp only [nc] at h)) | refine Ob.mk ?_ ?_ | refine Chk.mk (by kernel_rfl) ?_ | refine Eq'.mk ?_ | (refine AllN.mk fun i hi => ?_; cbv) | (refine AllC.mk fun c hc hcm => ?_; (try dsimp only at hc); cbv) | (refine AllS.mk fun r hr => ?_; (try simp only [Dat.ok, Dat.dec, Leaf.ok, Leaf.val, Z0, Z1, Z2, Z3, Z4, Z5, Z6, Z7, val_sl] at hr); cbv)
 all_goals ((try dsimp only at *); (try simp only [nc, Int.toNat_natCast, ne_eq, zz] at *); (try simp only [nc] at *))
 all_goals try simp only [Dat.dec, Leaf.val, Z0, Z1, Z2, Z3, Z4, Z5, Z6, Z7, val_sl] at *
 all_goals subst_vars
 all_goals try simp only [live_a] at *
 all_goals obtain ⟨j1, j2, j3, j4⟩ := live_j
 all_goals generalize judgeV plL = r at *
 all_goals first
   | exact Nat.le_refl _
   | (refine ⟨⟨trivial, ⟨rfl, fun i _ => Dat.hok _⟩, rfl, fun i _ => Dat.hok _⟩, (?_ : plL.wants.length ≤ 9223372036854775807 ∧ plL.jobs.length ≤ 9223372036854775807)⟩
      exact ⟨by decide, by decide⟩)
   | exact ⟨by decide, by omega⟩
   | exact (show 3 < r.2.1.length by omega)
   | rfl
   | (exfalso; exact Bool.noConfusion ((by assumption : r.2.1.getD 3 Dat.d0 = false).symm.trans j4))
   | (exfalso; omega)
   | (exfalso; have q := (by assumption : ¬ ((r.1.windows.length : Int) = 1)); rw [j2] at q; exact q rfl)
   | (exfalso; exact absurd rfl (by assumption))
   | (exfalso; exact absurd trivial (by assumption))
   | fail
theorem clives_ok : PcOk Tryz.prog 10 (detPC clives_D) := det_okA fun A p r h hp0 => by
 unfold clives_D at h
 split at h
 · cases h
   exact ⟨rfl, FnOk.pre (A' := []) (clives_vc ) (trivial)⟩
 · cases h

end Go.Proofs.YtnjngpjkhddnfaaGreatDoor
