import Derived.Test.YtpooooomhnehfaaFence5
import Derived.Test.YtpooooomhnehfaaAbsRow2
import Derived.OpenShut
import Derived.ShutString
import Derived.ChangeOld
set_option linter.all false
namespace Go.Proofs.Ytpooooomhnehfaa
open Go.Abs Go.ChangeShapes Go.WideShapes Go.ChangeAt Go.RowKit Go.Joins
open Go.ChangeMaps (open_string shut_string)
set_option linter.unusedVariables false

theorem own : ownKnob Try.prog.godebug = none := by kernel_rfl
theorem laidOut : laidOutB Try.prog = true := by kernel_rfl
theorem readOk {ts : Array TypeId} (h : ts.toList.all (fun t => Try.prog.readableRec t && decide (t < Try.prog.types.size)) = true) : ∀ t ∈ ts.toList, Try.prog.readableRec t = true ∧ t < Try.prog.types.size := fun t ht => by
  have := List.all_eq_true.1 h t ht
  simpa using this

theorem cells33 : Try.prog.cellsOf 33 = 2 := by kernel_rfl

/-- Tries that came in. -/
theorem open_tries {H : Type} {enc : TypeId × Value → H} {W : World} {v : Value} {d : DataW H} {ps : List MemPlace} {base : Nat} (hv : Value.okWide Try.prog W .any base 22 v) (h : DataW.Trod enc Try.prog W 0 (fun _ => true) true 22 v d ps) :
    ∃ (n : Nat) (g : Nat → Tr), n ≤ 9223372036854775807 ∧ RepC W (fun _ => False) (.sl 4 (fun _ => n) fun i => tryL (g (i ()))) v := by
  obtain ⟨a0, n0, c0, rfl⟩ := okWide_slice Try.underlying22 hv
  rcases flat_cells Try.underlying22 Try.underlying30 (by kernel_rfl) (by kernel_rfl) h with ⟨rfl, rfl, rfl⟩ | ⟨a, rfl, hl, hm, hc⟩
  · exact ⟨0, fun _ => ⟨0, 0, 0, 0⟩, by omega, .sl0 _ _ _ _ _ rfl (Nat.zero_le _)⟩
  · obtain ⟨g, hg⟩ := sl_of_cells (w := W) (M := fun _ => False) (L := tryL) (sz := 4) (n := n0) (cap := c0) (a := a) ⟨0, 0, 0, 0⟩ id (by omega) (fun _ => rfl) hl hm fun i hi => by
      have c := hc i hi
      obtain ⟨u0, m0, y0, q0, t0⟩ := c 0 _ rfl
      obtain ⟨u1, m1, y1, q1, t1⟩ := c 1 _ rfl
      obtain ⟨u2, m2, y2, q2, t2⟩ := c 2 _ rfl
      obtain ⟨u3, m3, y3, q3, t3⟩ := c 3 _ rfl
      obtain ⟨x0, rfl⟩ := int_cell Try.underlying3 t0
      obtain ⟨x1, rfl⟩ := int_cell Try.underlying3 t1
      obtain ⟨x2, rfl⟩ := int_cell Try.underlying3 t2
      obtain ⟨x3, rfl⟩ := int_cell Try.underlying3 t3
      refine ⟨⟨x0, x1, x2, x3⟩, fun j hj => ?_⟩
      match j, hj with
      | 0, _ => exact ⟨_, _, rfl, q0, rfl, .i .i64 fun _ => x0⟩
      | 1, _ => exact ⟨_, _, rfl, q1, rfl, .i .i64 fun _ => x1⟩
      | 2, _ => exact ⟨_, _, rfl, q2, rfl, .i .i64 fun _ => x2⟩
      | 3, _ => exact ⟨_, _, rfl, q3, rfl, .i .i64 fun _ => x3⟩
    exact ⟨n0, g, by unfold maxLen at hm; omega, hg⟩

end Go.Proofs.Ytpooooomhnehfaa
