/- Locks that live. -/
import Derived.Test.YthbdlihmafcioaaLock7
import Derived.Test.YthbdlihmafcioaaAbsG4
set_option linter.all false
namespace Go.Proofs.Ythbdlihmafcioaa
open Go Go.Abs

noncomputable def cLkL : FuncId → Con := fun f => match f with
  | 8 => pureConD lkPlay_C
  | 11 => pureConD (detPC bndC_D)
  | _ => fun _ _ _ => Bad 1001
theorem cLkL_ok : ConOk Try.prog cLkL := fun f A H K h => by
  unfold cLkL at h
  split at h
  · exact ⟨⟨Try.f8, Try.func8, by kernel_rfl, by kernel_rfl⟩, pureConD_ok lkPlay_ok h⟩
  · exact ⟨⟨Try.f11, Try.func11, by kernel_rfl, by kernel_rfl⟩, pureConD_ok bndC_ok h⟩
  · cases h
theorem lklive0 : playLk [⟨1, [⟨2, 2⟩, ⟨1, 1⟩, ⟨3, 2⟩]⟩, ⟨0, [⟨2, 2⟩, ⟨1, 2⟩, ⟨3, 2⟩, ⟨1, 1⟩]⟩] 5 = (⟨[1, 1, 0, 1, -1], [3, 4], 0⟩, 0) := by decide +kernel
theorem lklive1 : boundV [⟨1, [⟨2, 2⟩, ⟨1, 1⟩, ⟨3, 2⟩]⟩, ⟨0, [⟨2, 2⟩, ⟨1, 2⟩, ⟨3, 2⟩, ⟨1, 1⟩]⟩] 0 = (2, 0) := by decide +kernel
attribute [local irreducible] playLk boundV
def lkLives_R (r : Th (Bool)) : AV := .bc true
def lkLives_D : Det := fun A => match A with
  | [] => some (fun _ => True, lkLives_R fun _ => true )
  | _ => none
set_option maxRecDepth 100000 in
set_option maxHeartbeats 4000000 in
theorem lkLives_vc  : FnOk Try.prog 9 [] [] (outA (lkLives_R fun _ => true ) []) := by
  refine fn_ok envOk zl cLkL_ok noDraws_ok (keep := [0, 1, 2, 3, 4, 5]) Try.func9 rfl ?_
  cbv
  repeat' first | (refine Stp.mk ?_; cbv) | (refine Gen.mk fun r hr => ?_; (try simp only [Dat.ok, Dat.dec, Leaf.ok, Leaf.val, Act.eta, Work.eta, Locked.eta, val_sl, val_nil] at hr); cbv) | exact trivial | rfl | refine Both.mk ?_ ?_ | (refine Imp.mk fun h => ?_; (try dsimp only at h); (try simp only [nc, Int.toNat_natCast, ne_eq, zz] at h); (try simp only [nc] at h)) | refine Ob.mk ?_ ?_ | refine Chk.mk (by kernel_rfl) ?_ | refine Eq'.mk ?_ | (refine AllN.mk fun i hi => ?_; cbv) | (refine AllC.mk fun c hc hcm => ?_; (try dsimp only at hc); cbv) | (refine AllS.mk fun r hr => ?_; (try simp only [Dat.ok, Dat.dec, Leaf.ok, Leaf.val, Act.eta, Work.eta, Locked.eta, val_sl] at hr); cbv)
  all_goals try (rename (_ = playLk _ _) => z1; have z1' := z1.trans lklive0; clear z1; subst z1')
  all_goals first
    | exact Nat.le_refl _
    | (refine ⟨⟨rfl, fun i (hi : i < 2) => ?_⟩, ?_⟩
       · rcases i with _ | _ | i
         · refine ⟨trivial, fun _ => ⟨rfl, fun i (hi : i < 3) => ?_⟩, fun h => absurd h (by decide)⟩
           rcases i with _ | _ | _ | i
           · exact ⟨trivial, trivial⟩
           · exact ⟨trivial, trivial⟩
           · exact ⟨trivial, trivial⟩
           · omega
         · refine ⟨trivial, fun h => absurd h (by decide), fun _ => ⟨rfl, fun i (hi : i < 4) => ?_⟩⟩
           rcases i with _ | _ | _ | _ | i
           · exact ⟨trivial, trivial⟩
           · exact ⟨trivial, trivial⟩
           · exact ⟨trivial, trivial⟩
           · exact ⟨trivial, trivial⟩
           · omega
         · omega
       · show (_ : Nat) ≤ _
         decide)
    | decide +kernel
    | exact absurd (congrArg Prod.fst lklive1) (by assumption)
    | exact absurd (congrArg Prod.snd lklive1) (by assumption)
    | (exfalso; revert h; decide +kernel)
    | fail
theorem lkLives_ok : PcOk Try.prog 9 (detPC lkLives_D) := det_okA fun A p r h hp0 => by
  unfold lkLives_D at h
  split at h
  · cases h
    exact ⟨rfl, FnOk.pre (A' := []) (lkLives_vc ) (trivial)⟩
  · cases h

end Go.Proofs.Ythbdlihmafcioaa
