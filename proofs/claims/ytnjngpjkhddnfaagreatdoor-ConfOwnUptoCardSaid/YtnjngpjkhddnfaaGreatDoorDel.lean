/- slices.Delete, and slices.Reverse, walked at each type. -/
import Derived.Test.YtnjngpjkhddnfaaGreatDoorAbsG4
import Derived.Test.YtnjngpjkhddnfaaGreatDoorTy
set_option linter.all false
namespace Go.Proofs.YtnjngpjkhddnfaaGreatDoor
open Go Go.Abs

def clWant_R (r : Th ((List Want))) : AV := .own 0 fun _ => (r ()).length
def clWant_H (r : Th ((List Want))) : Hp := [vecO 28 fun _ => (r ())]
def clWant_P (l : (List Want)) : Prop := l.length ≤ 1099511627776
def clWant_C : PC := fun A K => match A with
  | [l] => Ob (fun _ => Leaf.ok (List Want) l ∧ clWant_P (Leaf.val l)) (Gen (α := (List Want)) (fun _ => (Leaf.val l)) fun r => K (clWant_R fun _ => r) (clWant_H fun _ => r))
  | _ => Bad 1002
set_option maxRecDepth 100000 in
set_option maxHeartbeats 4000000 in
theorem clWant_vc (l : (List Want)) (hp : clWant_P l) : FnOk Tryz.prog 7 [Leaf.av fun _ => l] [] (outA (clWant_R fun _ => l) (clWant_H fun _ => l)) := by
  refine fn_ok envOk zl noCon_ok noDraws_ok (keep := [0, 2, 4]) Tryz.func7 rfl ?_
  have hp' : l.length ≤ 1099511627776 := hp
  cbv
  repeat' first | (refine Stp.mk ?_; cbv) | (refine Gen.mk fun r hr => ?_; (try simp only [Dat.ok, Dat.dec, Leaf.ok, Leaf.val, Z0, Z1, Z2, Z3, Z4, Z5, Z6, Z7, val_sl, val_nil] at hr); cbv) | exact trivial | rfl | refine Both.mk ?_ ?_ | (refine Imp.mk fun h => ?_; (try dsimp only at h); (try simp only [nc, Int.toNat_natCast, ne_eq, zz] at h); (try simp only [nc] at h)) | refine Ob.mk ?_ ?_ | refine Chk.mk (by kernel_rfl) ?_ | refine Eq'.mk ?_ | (refine AllN.mk fun i hi => ?_; cbv) | (refine AllC.mk fun c hc hcm => ?_; (try dsimp only at hc); cbv) | (refine AllS.mk fun r hr => ?_; (try simp only [Dat.ok, Dat.dec, Leaf.ok, Leaf.val, Z0, Z1, Z2, Z3, Z4, Z5, Z6, Z7, val_sl] at hr); cbv)
  all_goals ((try dsimp only at *); (try simp only [nc, Int.toNat_natCast, ne_eq, zz] at *); (try simp only [nc] at *))
  all_goals first
    | omega
    | (exact ⟨Nat.le_refl _, trivial, by omega, by omega⟩)
    | (simp only [Nat.zero_add, Nat.sub_zero, Nat.not_lt_zero, decide_false, cond_false]; done)
    | (simp_all; done)
    | fail
theorem clWant_ok : PcOk Tryz.prog 7 (clWant_C) := fun A K h => by
  unfold clWant_C at h
  split at h
  · rename_i l
    cases h with
    | mk h1 h2 =>
      obtain ⟨g0, hp⟩ := h1
      refine FnOk.pre ?_ (A' := [Leaf.av fun _ => (Leaf.val l : (List Want))]) (.mk (Leaf.hle _ g0) (trivial))
      exact FnOk.out (K := fun r H _ => K r H) (clWant_vc (Leaf.val l) hp) rfl h2.out
  · cases h
def clWantN_N : DetN := fun A => match A with
  | [l] => some (fun _ => Leaf.ok (List Want) l ∧ clWant_P (Leaf.val l), clWant_R fun _ => (Leaf.val l), vecO 28 fun _ => ((Leaf.val l) : (List Want)))
  | _ => none
theorem clWantN_okN : PcOk Tryz.prog 7 (detNPC clWantN_N) := det_okN fun A p r o h hp0 => by
  unfold clWantN_N at h
  split at h
  · rename_i l
    cases h
    obtain ⟨g0, hp⟩ := hp0
    exact FnOk.pre (A' := [Leaf.av fun _ => (Leaf.val l : (List Want))]) (FnOk.out (clWant_vc (Leaf.val l) hp) rfl ⟨rfl, rfl⟩) (.mk (Leaf.hle _ g0) (trivial))
  · cases h

end Go.Proofs.YtnjngpjkhddnfaaGreatDoor
