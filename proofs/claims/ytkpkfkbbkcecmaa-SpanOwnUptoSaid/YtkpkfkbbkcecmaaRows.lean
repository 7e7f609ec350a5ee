/-
  No cell of these rows narrows 'for every input' (looked for: loops, veiled, ifaces, maps, wideKeys, modest, calm, conditions, laid).
  DERIVED. THE GIVEN ROWS OF THIS SEAT. 6 by the template 'for every input the law returns true; each argument reads behind the call as it read before'; 0 by the template 'total and deterministic' (their statements: YtkpkfkbbkcecmaaTotals.lean).
  GIVEN WITH THE SEED: the statements are not yours to turn. If you find one false, say at which input.
  Laid BY PROGRAM, IN A SANDBOX (cutbox-rows.mjs): the forced cells as the released guide's own fill.sh prints them over the translation 2d098df6fad17237… (all of the seat's roots in one cut). By AI agents, Wed Nov 11 2026. No macro, syntax, notation, axiom, sorry.
-/
import Derived.Test.YtkpkfkbbkcecmaaChecked
import GoSem.Claim
import GoSem.ClaimJoined
import GoSem.ClaimMapViews
import Derived.JoinedTies
import Derived.KernelRfl
namespace Go.Proofs.Ytkpkfkbbkcecmaa
/- THE CELL 'sum', in the pinned program and in every row, IS THE sha256 OF THE DUMP (.gsa) THAT YtkpkfkbbkcecmaaProg.lean LOADS. Nothing in Lean hashes anything: it is a label: what it is worth is what the hold of that sum in a sandbox is worth. -/
noncomputable def Try.pinned : Pinned := { name := "ytkpkfkbbkcecmaa", sum := "2d098df6fad17237b6c072a0e15e4e6d590c743cca575dbf2e079143e3c0f9dd", checked := Try.checked }
namespace Rows
def none {H : Type} : Left H := { results := [], args := [] }

/-- 'dutykeep.SpanCount': WHATEVER THE INPUT: true; the input reads as it did. -/
def spanCountSpec : ChangeSpec := { name := "spanCount", fn := fun _ => fun
  | [d1, d2, d3, d4] => { results := [.lit (.bool true)], args := [d1, d2, d3, d4] }
  | _ => none }
def spanCountRow : OpenClaim := { program := "ytkpkfkbbkcecmaa", sum := "2d098df6fad17237b6c072a0e15e4e6d590c743cca575dbf2e079143e3c0f9dd", func := "dutyroster/dutykeep.SpanCount", spec := "spanCount", unfollowed := true, recurses := true, apart := false }
def SpanCountSaid : Prop := spanCountRow.holds Try.pinned (OpenSpec.ofChange spanCountSpec)

/-- ITS FALSE NEIGHBOUR: 'it returns false'. Refute it at one input. -/
def spanCountWrong : ChangeSpec := { name := "spanCount", fn := fun _ => fun
  | [d1, d2, d3, d4] => { results := [.lit (.bool false)], args := [d1, d2, d3, d4] }
  | _ => none }
def SpanCountWrongFalsely : Prop := spanCountRow.holds Try.pinned (OpenSpec.ofChange spanCountWrong)

/-- 'dutykeep.SpanNext': WHATEVER THE INPUT: true; the input reads as it did. -/
def spanNextSpec : ChangeSpec := { name := "spanNext", fn := fun _ => fun
  | [d1, d2] => { results := [.lit (.bool true)], args := [d1, d2] }
  | _ => none }
def spanNextRow : OpenClaim := { program := "ytkpkfkbbkcecmaa", sum := "2d098df6fad17237b6c072a0e15e4e6d590c743cca575dbf2e079143e3c0f9dd", func := "dutyroster/dutykeep.SpanNext", spec := "spanNext", unfollowed := true, recurses := true, apart := false }
def SpanNextSaid : Prop := spanNextRow.holds Try.pinned (OpenSpec.ofChange spanNextSpec)

/-- ITS FALSE NEIGHBOUR: 'it returns false'. Refute it at one input. -/
def spanNextWrong : ChangeSpec := { name := "spanNext", fn := fun _ => fun
  | [d1, d2] => { results := [.lit (.bool false)], args := [d1, d2] }
  | _ => none }
def SpanNextWrongFalsely : Prop := spanNextRow.holds Try.pinned (OpenSpec.ofChange spanNextWrong)

/-- 'dutykeep.SpanOf': WHATEVER THE INPUT: true; the input reads as it did. -/
def spanOfSpec : ChangeSpec := { name := "spanOf", fn := fun _ => fun
  | [d1, d2, d3] => { results := [.lit (.bool true)], args := [d1, d2, d3] }
  | _ => none }
def spanOfRow : OpenClaim := { program := "ytkpkfkbbkcecmaa", sum := "2d098df6fad17237b6c072a0e15e4e6d590c743cca575dbf2e079143e3c0f9dd", func := "dutyroster/dutykeep.SpanOf", spec := "spanOf", unfollowed := true, recurses := true, apart := false }
def SpanOfSaid : Prop := spanOfRow.holds Try.pinned (OpenSpec.ofChange spanOfSpec)

/-- ITS FALSE NEIGHBOUR: 'it returns false'. Refute it at one input. -/
def spanOfWrong : ChangeSpec := { name := "spanOf", fn := fun _ => fun
  | [d1, d2, d3] => { results := [.lit (.bool false)], args := [d1, d2, d3] }
  | _ => none }
def SpanOfWrongFalsely : Prop := spanOfRow.holds Try.pinned (OpenSpec.ofChange spanOfWrong)

/-- 'dutykeep.SpanAlgebra': WHATEVER THE INPUT: true; the input reads as it did. -/
def spanAlgebraSpec : ChangeSpec := { name := "spanAlgebra", fn := fun _ => fun
  | [d1, d2] => { results := [.lit (.bool true)], args := [d1, d2] }
  | _ => none }
def spanAlgebraRow : OpenClaim := { program := "ytkpkfkbbkcecmaa", sum := "2d098df6fad17237b6c072a0e15e4e6d590c743cca575dbf2e079143e3c0f9dd", func := "dutyroster/dutykeep.SpanAlgebra", spec := "spanAlgebra", unfollowed := true, recurses := true, apart := false }
def SpanAlgebraSaid : Prop := spanAlgebraRow.holds Try.pinned (OpenSpec.ofChange spanAlgebraSpec)

/-- ITS FALSE NEIGHBOUR: 'it returns false'. Refute it at one input. -/
def spanAlgebraWrong : ChangeSpec := { name := "spanAlgebra", fn := fun _ => fun
  | [d1, d2] => { results := [.lit (.bool false)], args := [d1, d2] }
  | _ => none }
def SpanAlgebraWrongFalsely : Prop := spanAlgebraRow.holds Try.pinned (OpenSpec.ofChange spanAlgebraWrong)

/-- 'dutykeep.SpanMeasure': WHATEVER THE INPUT: true; the input reads as it did. -/
def spanMeasureSpec : ChangeSpec := { name := "spanMeasure", fn := fun _ => fun
  | [d1, d2, d3, d4] => { results := [.lit (.bool true)], args := [d1, d2, d3, d4] }
  | _ => none }
def spanMeasureRow : OpenClaim := { program := "ytkpkfkbbkcecmaa", sum := "2d098df6fad17237b6c072a0e15e4e6d590c743cca575dbf2e079143e3c0f9dd", func := "dutyroster/dutykeep.SpanMeasure", spec := "spanMeasure", unfollowed := true, recurses := true, apart := false }
def SpanMeasureSaid : Prop := spanMeasureRow.holds Try.pinned (OpenSpec.ofChange spanMeasureSpec)

/-- ITS FALSE NEIGHBOUR: 'it returns false'. Refute it at one input. -/
def spanMeasureWrong : ChangeSpec := { name := "spanMeasure", fn := fun _ => fun
  | [d1, d2, d3, d4] => { results := [.lit (.bool false)], args := [d1, d2, d3, d4] }
  | _ => none }
def SpanMeasureWrongFalsely : Prop := spanMeasureRow.holds Try.pinned (OpenSpec.ofChange spanMeasureWrong)

/-- 'dutykeep.SpanOwn': WHATEVER THE INPUT: true; the input reads as it did. -/
def spanOwnSpec : ChangeSpec := { name := "spanOwn", fn := fun _ => fun
  | [d1, d2, d3] => { results := [.lit (.bool true)], args := [d1, d2, d3] }
  | _ => none }
def spanOwnRow : OpenClaim := { program := "ytkpkfkbbkcecmaa", sum := "2d098df6fad17237b6c072a0e15e4e6d590c743cca575dbf2e079143e3c0f9dd", func := "dutyroster/dutykeep.SpanOwn", spec := "spanOwn", unfollowed := true, recurses := true, apart := false }
def SpanOwnSaid : Prop := spanOwnRow.holds Try.pinned (OpenSpec.ofChange spanOwnSpec)

/-- ITS FALSE NEIGHBOUR: 'it returns false'. Refute it at one input. -/
def spanOwnWrong : ChangeSpec := { name := "spanOwn", fn := fun _ => fun
  | [d1, d2, d3] => { results := [.lit (.bool false)], args := [d1, d2, d3] }
  | _ => none }
def SpanOwnWrongFalsely : Prop := spanOwnRow.holds Try.pinned (OpenSpec.ofChange spanOwnWrong)

/- THE SECOND FORM. 'bulk': how many values and letters a reading holds, each counted each time it is reached (what is shared counts as often as it is met; a slice's spare places count too). A statement '..UptoSaid' is the law's where the arguments, and the package variables that the reading takes, are together of bulk at most 1048576: NARROWER than '..Said'. Prove '..Said' where nothing that the law and all that it calls make is longer than what came in: it says more and counts as full. Else prove '..UptoSaid'. A law counts once. -/
mutual
def uptoBulk {H : Type} : DataW H → Nat
  | .lit (.string bytes) => bytes.length + 1
  | .lit _ => 1
  | .nil => 1
  | .ptr d => uptoBulk d + 1
  | .slice elems spare => uptoBulkAll elems + uptoBulkAll spare + 1
  | .agg parts => uptoBulkAll parts + 1
  | .iface _ d => uptoBulk d + 1
  | .map entries => uptoBulkEntries entries + 1
  | .held _ => 1
def uptoBulkAll {H : Type} : List (DataW H) → Nat
  | [] => 0
  | d :: r => uptoBulk d + uptoBulkAll r
def uptoBulkEntries {H : Type} : List (Lit × DataW H) → Nat
  | [] => 0
  | x :: r => uptoBulkEntry x + uptoBulkEntries r
def uptoBulkEntry {H : Type} : Lit × DataW H → Nat
  | (.string bytes, d) => bytes.length + uptoBulk d + 1
  | (_, d) => uptoBulk d + 1
 end
def uptoSmall : (H : Type) → List (DataW H) → Bool := fun _ ds => decide (uptoBulkAll ds ≤ 1048576)
def OpenSpec.upto (s : _root_.Go.ChangeSpec) : _root_.Go.OpenSpec := { _root_.Go.OpenSpec.ofChange s with cond := some uptoSmall }

/-- 'dutykeep.SpanCount', WHERE WHAT IT READS IS OF BULK AT MOST 1048576: true; the input reads as it did. -/
def spanCountUptoRow : OpenClaim := { program := "ytkpkfkbbkcecmaa", sum := "2d098df6fad17237b6c072a0e15e4e6d590c743cca575dbf2e079143e3c0f9dd", func := "dutyroster/dutykeep.SpanCount", spec := "spanCount", unfollowed := true, recurses := true, apart := false, narrowed := true }
def SpanCountUptoSaid : Prop := spanCountUptoRow.holds Try.pinned (OpenSpec.upto spanCountSpec)

/-- 'dutykeep.SpanNext', WHERE WHAT IT READS IS OF BULK AT MOST 1048576: true; the input reads as it did. -/
def spanNextUptoRow : OpenClaim := { program := "ytkpkfkbbkcecmaa", sum := "2d098df6fad17237b6c072a0e15e4e6d590c743cca575dbf2e079143e3c0f9dd", func := "dutyroster/dutykeep.SpanNext", spec := "spanNext", unfollowed := true, recurses := true, apart := false, narrowed := true }
def SpanNextUptoSaid : Prop := spanNextUptoRow.holds Try.pinned (OpenSpec.upto spanNextSpec)

/-- 'dutykeep.SpanOf', WHERE WHAT IT READS IS OF BULK AT MOST 1048576: true; the input reads as it did. -/
def spanOfUptoRow : OpenClaim := { program := "ytkpkfkbbkcecmaa", sum := "2d098df6fad17237b6c072a0e15e4e6d590c743cca575dbf2e079143e3c0f9dd", func := "dutyroster/dutykeep.SpanOf", spec := "spanOf", unfollowed := true, recurses := true, apart := false, narrowed := true }
def SpanOfUptoSaid : Prop := spanOfUptoRow.holds Try.pinned (OpenSpec.upto spanOfSpec)

/-- 'dutykeep.SpanAlgebra', WHERE WHAT IT READS IS OF BULK AT MOST 1048576: true; the input reads as it did. -/
def spanAlgebraUptoRow : OpenClaim := { program := "ytkpkfkbbkcecmaa", sum := "2d098df6fad17237b6c072a0e15e4e6d590c743cca575dbf2e079143e3c0f9dd", func := "dutyroster/dutykeep.SpanAlgebra", spec := "spanAlgebra", unfollowed := true, recurses := true, apart := false, narrowed := true }
def SpanAlgebraUptoSaid : Prop := spanAlgebraUptoRow.holds Try.pinned (OpenSpec.upto spanAlgebraSpec)

/-- 'dutykeep.SpanMeasure', WHERE WHAT IT READS IS OF BULK AT MOST 1048576: true; the input reads as it did. -/
def spanMeasureUptoRow : OpenClaim := { program := "ytkpkfkbbkcecmaa", sum := "2d098df6fad17237b6c072a0e15e4e6d590c743cca575dbf2e079143e3c0f9dd", func := "dutyroster/dutykeep.SpanMeasure", spec := "spanMeasure", unfollowed := true, recurses := true, apart := false, narrowed := true }
def SpanMeasureUptoSaid : Prop := spanMeasureUptoRow.holds Try.pinned (OpenSpec.upto spanMeasureSpec)

/-- 'dutykeep.SpanOwn', WHERE WHAT IT READS IS OF BULK AT MOST 1048576: true; the input reads as it did. -/
def spanOwnUptoRow : OpenClaim := { program := "ytkpkfkbbkcecmaa", sum := "2d098df6fad17237b6c072a0e15e4e6d590c743cca575dbf2e079143e3c0f9dd", func := "dutyroster/dutykeep.SpanOwn", spec := "spanOwn", unfollowed := true, recurses := true, apart := false, narrowed := true }
def SpanOwnUptoSaid : Prop := spanOwnUptoRow.holds Try.pinned (OpenSpec.upto spanOwnSpec)

end Rows
end Go.Proofs.Ytkpkfkbbkcecmaa
