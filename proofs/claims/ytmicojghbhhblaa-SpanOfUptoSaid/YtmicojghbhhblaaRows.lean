/-
  No cell of these rows narrows 'for every input' (looked for: loops, veiled, ifaces, maps, wideKeys, modest, calm, conditions, laid).
  DERIVED. THE GIVEN ROWS OF THIS SEAT. 12 by the template 'for every input the law returns true; each argument reads behind the call as it read before'; 0 by the template 'total and deterministic' (their statements: YtmicojghbhhblaaTotals.lean).
  GIVEN WITH THE SEED: the statements are not yours to turn. If you find one false, say at which input.
  Laid BY PROGRAM, IN A SANDBOX (cutbox-rows.mjs): the forced cells as the released guide's own fill.sh prints them over the translation b246a8771e1f69b8… (all of the seat's roots in one cut). By AI agents, Wed Nov 11 2026. No macro, syntax, notation, axiom, sorry.
-/
import Derived.Test.YtmicojghbhhblaaChecked
import GoSem.Claim
import GoSem.ClaimJoined
import GoSem.ClaimMapViews
import Derived.JoinedTies
import Derived.KernelRfl
namespace Go.Proofs.Ytmicojghbhhblaa
/- THE CELL 'sum', in the pinned program and in every row, IS THE sha256 OF THE DUMP (.gsa) THAT YtmicojghbhhblaaProg.lean LOADS. Nothing in Lean hashes anything: it is a label: what it is worth is what the hold of that sum in a sandbox is worth. -/
noncomputable def Try.pinned : Pinned := { name := "ytmicojghbhhblaa", sum := "b246a8771e1f69b80bcc60aecec80012895f33cc13f50b19eac433c20e2f0c93", checked := Try.checked }
namespace Rows
def none {H : Type} : Left H := { results := [], args := [] }

/-- 'dutykeep.SupplyEach': WHATEVER THE INPUT: true; the input reads as it did. -/
def supplyEachSpec : ChangeSpec := { name := "supplyEach", fn := fun _ => fun
  | [d1, d2, d3] => { results := [.lit (.bool true)], args := [d1, d2, d3] }
  | _ => none }
def supplyEachRow : OpenClaim := { program := "ytmicojghbhhblaa", sum := "b246a8771e1f69b80bcc60aecec80012895f33cc13f50b19eac433c20e2f0c93", func := "dutyroster/dutykeep.SupplyEach", spec := "supplyEach", unfollowed := true, recurses := true, apart := false }
def SupplyEachSaid : Prop := supplyEachRow.holds Try.pinned (OpenSpec.ofChange supplyEachSpec)

/-- ITS FALSE NEIGHBOUR: 'it returns false'. Refute it at one input. -/
def supplyEachWrong : ChangeSpec := { name := "supplyEach", fn := fun _ => fun
  | [d1, d2, d3] => { results := [.lit (.bool false)], args := [d1, d2, d3] }
  | _ => none }
def SupplyEachWrongFalsely : Prop := supplyEachRow.holds Try.pinned (OpenSpec.ofChange supplyEachWrong)

/-- 'dutykeep.SupplyAdds': WHATEVER THE INPUT: true; the input reads as it did. -/
def supplyAddsSpec : ChangeSpec := { name := "supplyAdds", fn := fun _ => fun
  | [d1, d2, d3] => { results := [.lit (.bool true)], args := [d1, d2, d3] }
  | _ => none }
def supplyAddsRow : OpenClaim := { program := "ytmicojghbhhblaa", sum := "b246a8771e1f69b80bcc60aecec80012895f33cc13f50b19eac433c20e2f0c93", func := "dutyroster/dutykeep.SupplyAdds", spec := "supplyAdds", unfollowed := true, recurses := true, apart := false }
def SupplyAddsSaid : Prop := supplyAddsRow.holds Try.pinned (OpenSpec.ofChange supplyAddsSpec)

/-- ITS FALSE NEIGHBOUR: 'it returns false'. Refute it at one input. -/
def supplyAddsWrong : ChangeSpec := { name := "supplyAdds", fn := fun _ => fun
  | [d1, d2, d3] => { results := [.lit (.bool false)], args := [d1, d2, d3] }
  | _ => none }
def SupplyAddsWrongFalsely : Prop := supplyAddsRow.holds Try.pinned (OpenSpec.ofChange supplyAddsWrong)

/-- 'dutykeep.SupplyFrame': WHATEVER THE INPUT: true; the input reads as it did. -/
def supplyFrameSpec : ChangeSpec := { name := "supplyFrame", fn := fun _ => fun
  | [d1, d2] => { results := [.lit (.bool true)], args := [d1, d2] }
  | _ => none }
def supplyFrameRow : OpenClaim := { program := "ytmicojghbhhblaa", sum := "b246a8771e1f69b80bcc60aecec80012895f33cc13f50b19eac433c20e2f0c93", func := "dutyroster/dutykeep.SupplyFrame", spec := "supplyFrame", unfollowed := true, recurses := true, apart := false }
def SupplyFrameSaid : Prop := supplyFrameRow.holds Try.pinned (OpenSpec.ofChange supplyFrameSpec)

/-- ITS FALSE NEIGHBOUR: 'it returns false'. Refute it at one input. -/
def supplyFrameWrong : ChangeSpec := { name := "supplyFrame", fn := fun _ => fun
  | [d1, d2] => { results := [.lit (.bool false)], args := [d1, d2] }
  | _ => none }
def SupplyFrameWrongFalsely : Prop := supplyFrameRow.holds Try.pinned (OpenSpec.ofChange supplyFrameWrong)

/-- 'dutykeep.SupplyGalois': WHATEVER THE INPUT: true; the input reads as it did. -/
def supplyGaloisSpec : ChangeSpec := { name := "supplyGalois", fn := fun _ => fun
  | [d1, d2, d3] => { results := [.lit (.bool true)], args := [d1, d2, d3] }
  | _ => none }
def supplyGaloisRow : OpenClaim := { program := "ytmicojghbhhblaa", sum := "b246a8771e1f69b80bcc60aecec80012895f33cc13f50b19eac433c20e2f0c93", func := "dutyroster/dutykeep.SupplyGalois", spec := "supplyGalois", unfollowed := true, recurses := true, apart := false }
def SupplyGaloisSaid : Prop := supplyGaloisRow.holds Try.pinned (OpenSpec.ofChange supplyGaloisSpec)

/-- ITS FALSE NEIGHBOUR: 'it returns false'. Refute it at one input. -/
def supplyGaloisWrong : ChangeSpec := { name := "supplyGalois", fn := fun _ => fun
  | [d1, d2, d3] => { results := [.lit (.bool false)], args := [d1, d2, d3] }
  | _ => none }
def SupplyGaloisWrongFalsely : Prop := supplyGaloisRow.holds Try.pinned (OpenSpec.ofChange supplyGaloisWrong)

/-- 'dutykeep.SupplyDual': WHATEVER THE INPUT: true; the input reads as it did. -/
def supplyDualSpec : ChangeSpec := { name := "supplyDual", fn := fun _ => fun
  | [d1, d2] => { results := [.lit (.bool true)], args := [d1, d2] }
  | _ => none }
def supplyDualRow : OpenClaim := { program := "ytmicojghbhhblaa", sum := "b246a8771e1f69b80bcc60aecec80012895f33cc13f50b19eac433c20e2f0c93", func := "dutyroster/dutykeep.SupplyDual", spec := "supplyDual", unfollowed := true, recurses := true, apart := false }
def SupplyDualSaid : Prop := supplyDualRow.holds Try.pinned (OpenSpec.ofChange supplyDualSpec)

/-- ITS FALSE NEIGHBOUR: 'it returns false'. Refute it at one input. -/
def supplyDualWrong : ChangeSpec := { name := "supplyDual", fn := fun _ => fun
  | [d1, d2] => { results := [.lit (.bool false)], args := [d1, d2] }
  | _ => none }
def SupplyDualWrongFalsely : Prop := supplyDualRow.holds Try.pinned (OpenSpec.ofChange supplyDualWrong)

/-- 'dutykeep.SupplyFrom': WHATEVER THE INPUT: true; the input reads as it did. -/
def supplyFromSpec : ChangeSpec := { name := "supplyFrom", fn := fun _ => fun
  | [d1, d2, d3] => { results := [.lit (.bool true)], args := [d1, d2, d3] }
  | _ => none }
def supplyFromRow : OpenClaim := { program := "ytmicojghbhhblaa", sum := "b246a8771e1f69b80bcc60aecec80012895f33cc13f50b19eac433c20e2f0c93", func := "dutyroster/dutykeep.SupplyFrom", spec := "supplyFrom", unfollowed := true, recurses := true, apart := false }
def SupplyFromSaid : Prop := supplyFromRow.holds Try.pinned (OpenSpec.ofChange supplyFromSpec)

/-- ITS FALSE NEIGHBOUR: 'it returns false'. Refute it at one input. -/
def supplyFromWrong : ChangeSpec := { name := "supplyFrom", fn := fun _ => fun
  | [d1, d2, d3] => { results := [.lit (.bool false)], args := [d1, d2, d3] }
  | _ => none }
def SupplyFromWrongFalsely : Prop := supplyFromRow.holds Try.pinned (OpenSpec.ofChange supplyFromWrong)

/-- 'dutykeep.SpanCount': WHATEVER THE INPUT: true; the input reads as it did. -/
def spanCountSpec : ChangeSpec := { name := "spanCount", fn := fun _ => fun
  | [d1, d2, d3, d4] => { results := [.lit (.bool true)], args := [d1, d2, d3, d4] }
  | _ => none }
def spanCountRow : OpenClaim := { program := "ytmicojghbhhblaa", sum := "b246a8771e1f69b80bcc60aecec80012895f33cc13f50b19eac433c20e2f0c93", func := "dutyroster/dutykeep.SpanCount", spec := "spanCount", unfollowed := true, recurses := true, apart := false }
def SpanCountSaid : Prop := spanCountRow.holds Try.pinned (OpenSpec.ofChange spanCountSpec)

/-- ITS FALSE NEIGHBOUR: 'it returns false'. Refute it at one input. -/
def spanCountWrong : ChangeSpec := { name := "spanCount", fn := fun _ => fun
  | [d1, d2, d3, d4] => { results := [.lit (.bool false)], args := [d1, d2, d3, d4] }
  | _ => none }
def SpanCountWrongFalsely : Prop := spanCountRow.holds Try.pinned (OpenSpec.ofChange spanCountWrong)

/-- 'dutykeep.SpanNext': WHATEVER THE INPUT: true; the input reads as it did. -/
def spanNextSpec : ChangeSpec := { name := "spanNext", fn := fun _ => fun
  | [d1, d2] => { results := [.lit (.bool true)], args := [d1, d2] }
  | _ => none }
def spanNextRow : OpenClaim := { program := "ytmicojghbhhblaa", sum := "b246a8771e1f69b80bcc60aecec80012895f33cc13f50b19eac433c20e2f0c93", func := "dutyroster/dutykeep.SpanNext", spec := "spanNext", unfollowed := true, recurses := true, apart := false }
def SpanNextSaid : Prop := spanNextRow.holds Try.pinned (OpenSpec.ofChange spanNextSpec)

/-- ITS FALSE NEIGHBOUR: 'it returns false'. Refute it at one input. -/
def spanNextWrong : ChangeSpec := { name := "spanNext", fn := fun _ => fun
  | [d1, d2] => { results := [.lit (.bool false)], args := [d1, d2] }
  | _ => none }
def SpanNextWrongFalsely : Prop := spanNextRow.holds Try.pinned (OpenSpec.ofChange spanNextWrong)

/-- 'dutykeep.SpanOf': WHATEVER THE INPUT: true; the input reads as it did. -/
def spanOfSpec : ChangeSpec := { name := "spanOf", fn := fun _ => fun
  | [d1, d2, d3] => { results := [.lit (.bool true)], args := [d1, d2, d3] }
  | _ => none }
def spanOfRow : OpenClaim := { program := "ytmicojghbhhblaa", sum := "b246a8771e1f69b80bcc60aecec80012895f33cc13f50b19eac433c20e2f0c93", func := "dutyroster/dutykeep.SpanOf", spec := "spanOf", unfollowed := true, recurses := true, apart := false }
def SpanOfSaid : Prop := spanOfRow.holds Try.pinned (OpenSpec.ofChange spanOfSpec)

/-- ITS FALSE NEIGHBOUR: 'it returns false'. Refute it at one input. -/
def spanOfWrong : ChangeSpec := { name := "spanOf", fn := fun _ => fun
  | [d1, d2, d3] => { results := [.lit (.bool false)], args := [d1, d2, d3] }
  | _ => none }
def SpanOfWrongFalsely : Prop := spanOfRow.holds Try.pinned (OpenSpec.ofChange spanOfWrong)

/-- 'dutykeep.SpanAlgebra': WHATEVER THE INPUT: true; the input reads as it did. -/
def spanAlgebraSpec : ChangeSpec := { name := "spanAlgebra", fn := fun _ => fun
  | [d1, d2] => { results := [.lit (.bool true)], args := [d1, d2] }
  | _ => none }
def spanAlgebraRow : OpenClaim := { program := "ytmicojghbhhblaa", sum := "b246a8771e1f69b80bcc60aecec80012895f33cc13f50b19eac433c20e2f0c93", func := "dutyroster/dutykeep.SpanAlgebra", spec := "spanAlgebra", unfollowed := true, recurses := true, apart := false }
def SpanAlgebraSaid : Prop := spanAlgebraRow.holds Try.pinned (OpenSpec.ofChange spanAlgebraSpec)

/-- ITS FALSE NEIGHBOUR: 'it returns false'. Refute it at one input. -/
def spanAlgebraWrong : ChangeSpec := { name := "spanAlgebra", fn := fun _ => fun
  | [d1, d2] => { results := [.lit (.bool false)], args := [d1, d2] }
  | _ => none }
def SpanAlgebraWrongFalsely : Prop := spanAlgebraRow.holds Try.pinned (OpenSpec.ofChange spanAlgebraWrong)

/-- 'dutykeep.SpanMeasure': WHATEVER THE INPUT: true; the input reads as it did. -/
def spanMeasureSpec : ChangeSpec := { name := "spanMeasure", fn := fun _ => fun
  | [d1, d2, d3, d4] => { results := [.lit (.bool true)], args := [d1, d2, d3, d4] }
  | _ => none }
def spanMeasureRow : OpenClaim := { program := "ytmicojghbhhblaa", sum := "b246a8771e1f69b80bcc60aecec80012895f33cc13f50b19eac433c20e2f0c93", func := "dutyroster/dutykeep.SpanMeasure", spec := "spanMeasure", unfollowed := true, recurses := true, apart := false }
def SpanMeasureSaid : Prop := spanMeasureRow.holds Try.pinned (OpenSpec.ofChange spanMeasureSpec)

/-- ITS FALSE NEIGHBOUR: 'it returns false'. Refute it at one input. -/
def spanMeasureWrong : ChangeSpec := { name := "spanMeasure", fn := fun _ => fun
  | [d1, d2, d3, d4] => { results := [.lit (.bool false)], args := [d1, d2, d3, d4] }
  | _ => none }
def SpanMeasureWrongFalsely : Prop := spanMeasureRow.holds Try.pinned (OpenSpec.ofChange spanMeasureWrong)

/-- 'dutykeep.SpanOwn': WHATEVER THE INPUT: true; the input reads as it did. -/
def spanOwnSpec : ChangeSpec := { name := "spanOwn", fn := fun _ => fun
  | [d1, d2, d3] => { results := [.lit (.bool true)], args := [d1, d2, d3] }
  | _ => none }
def spanOwnRow : OpenClaim := { program := "ytmicojghbhhblaa", sum := "b246a8771e1f69b80bcc60aecec80012895f33cc13f50b19eac433c20e2f0c93", func := "dutyroster/dutykeep.SpanOwn", spec := "spanOwn", unfollowed := true, recurses := true, apart := false }
def SpanOwnSaid : Prop := spanOwnRow.holds Try.pinned (OpenSpec.ofChange spanOwnSpec)

/-- ITS FALSE NEIGHBOUR: 'it returns false'. Refute it at one input. -/
def spanOwnWrong : ChangeSpec := { name := "spanOwn", fn := fun _ => fun
  | [d1, d2, d3] => { results := [.lit (.bool false)], args := [d1, d2, d3] }
  | _ => none }
def SpanOwnWrongFalsely : Prop := spanOwnRow.holds Try.pinned (OpenSpec.ofChange spanOwnWrong)

/- THE SECOND FORM. 'bulk': how many values and letters a reading holds, each counted each time it is reached (what is shared counts as often as it is met; a slice's spare places count too). A statement '..UptoSaid' is the law's where the arguments, and the package variables that the reading takes, are together of bulk at most 1048576: NARROWER than '..Said'. Prove '..Said' where nothing that the law and all that it calls make is longer than what came in: it says more and counts as full. Else prove '..UptoSaid'. A law counts once. -/
mutual
def uptoBulk {H : Type} : DataW H → Nat
  | .lit (.string bytes) => bytes.length + 1
  | .lit _ => 1
  | .nil => 1
  | .ptr d => uptoBulk d + 1
  | .slice elems spare => uptoBulkAll elems + uptoBulkAll spare + 1
  | .agg parts => uptoBulkAll parts + 1
  | .iface _ d => uptoBulk d + 1
  | .map entries => uptoBulkEntries entries + 1
  | .held _ => 1
def uptoBulkAll {H : Type} : List (DataW H) → Nat
  | [] => 0
  | d :: r => uptoBulk d + uptoBulkAll r
def uptoBulkEntries {H : Type} : List (Lit × DataW H) → Nat
  | [] => 0
  | x :: r => uptoBulkEntry x + uptoBulkEntries r
def uptoBulkEntry {H : Type} : Lit × DataW H → Nat
  | (.string bytes, d) => bytes.length + uptoBulk d + 1
  | (_, d) => uptoBulk d + 1
 end
def uptoSmall : (H : Type) → List (DataW H) → Bool := fun _ ds => decide (uptoBulkAll ds ≤ 1048576)
def OpenSpec.upto (s : _root_.Go.ChangeSpec) : _root_.Go.OpenSpec := { _root_.Go.OpenSpec.ofChange s with cond := some uptoSmall }

/-- 'dutykeep.SupplyEach', WHERE WHAT IT READS IS OF BULK AT MOST 1048576: true; the input reads as it did. -/
def supplyEachUptoRow : OpenClaim := { program := "ytmicojghbhhblaa", sum := "b246a8771e1f69b80bcc60aecec80012895f33cc13f50b19eac433c20e2f0c93", func := "dutyroster/dutykeep.SupplyEach", spec := "supplyEach", unfollowed := true, recurses := true, apart := false, narrowed := true }
def SupplyEachUptoSaid : Prop := supplyEachUptoRow.holds Try.pinned (OpenSpec.upto supplyEachSpec)

/-- 'dutykeep.SupplyAdds', WHERE WHAT IT READS IS OF BULK AT MOST 1048576: true; the input reads as it did. -/
def supplyAddsUptoRow : OpenClaim := { program := "ytmicojghbhhblaa", sum := "b246a8771e1f69b80bcc60aecec80012895f33cc13f50b19eac433c20e2f0c93", func := "dutyroster/dutykeep.SupplyAdds", spec := "supplyAdds", unfollowed := true, recurses := true, apart := false, narrowed := true }
def SupplyAddsUptoSaid : Prop := supplyAddsUptoRow.holds Try.pinned (OpenSpec.upto supplyAddsSpec)

/-- 'dutykeep.SupplyFrame', WHERE WHAT IT READS IS OF BULK AT MOST 1048576: true; the input reads as it did. -/
def supplyFrameUptoRow : OpenClaim := { program := "ytmicojghbhhblaa", sum := "b246a8771e1f69b80bcc60aecec80012895f33cc13f50b19eac433c20e2f0c93", func := "dutyroster/dutykeep.SupplyFrame", spec := "supplyFrame", unfollowed := true, recurses := true, apart := false, narrowed := true }
def SupplyFrameUptoSaid : Prop := supplyFrameUptoRow.holds Try.pinned (OpenSpec.upto supplyFrameSpec)

/-- 'dutykeep.SupplyGalois', WHERE WHAT IT READS IS OF BULK AT MOST 1048576: true; the input reads as it did. -/
def supplyGaloisUptoRow : OpenClaim := { program := "ytmicojghbhhblaa", sum := "b246a8771e1f69b80bcc60aecec80012895f33cc13f50b19eac433c20e2f0c93", func := "dutyroster/dutykeep.SupplyGalois", spec := "supplyGalois", unfollowed := true, recurses := true, apart := false, narrowed := true }
def SupplyGaloisUptoSaid : Prop := supplyGaloisUptoRow.holds Try.pinned (OpenSpec.upto supplyGaloisSpec)

/-- 'dutykeep.SupplyDual', WHERE WHAT IT READS IS OF BULK AT MOST 1048576: true; the input reads as it did. -/
def supplyDualUptoRow : OpenClaim := { program := "ytmicojghbhhblaa", sum := "b246a8771e1f69b80bcc60aecec80012895f33cc13f50b19eac433c20e2f0c93", func := "dutyroster/dutykeep.SupplyDual", spec := "supplyDual", unfollowed := true, recurses := true, apart := false, narrowed := true }
def SupplyDualUptoSaid : Prop := supplyDualUptoRow.holds Try.pinned (OpenSpec.upto supplyDualSpec)

/-- 'dutykeep.SupplyFrom', WHERE WHAT IT READS IS OF BULK AT MOST 1048576: true; the input reads as it did. -/
def supplyFromUptoRow : OpenClaim := { program := "ytmicojghbhhblaa", sum := "b246a8771e1f69b80bcc60aecec80012895f33cc13f50b19eac433c20e2f0c93", func := "dutyroster/dutykeep.SupplyFrom", spec := "supplyFrom", unfollowed := true, recurses := true, apart := false, narrowed := true }
def SupplyFromUptoSaid : Prop := supplyFromUptoRow.holds Try.pinned (OpenSpec.upto supplyFromSpec)

/-- 'dutykeep.SpanCount', WHERE WHAT IT READS IS OF BULK AT MOST 1048576: true; the input reads as it did. -/
def spanCountUptoRow : OpenClaim := { program := "ytmicojghbhhblaa", sum := "b246a8771e1f69b80bcc60aecec80012895f33cc13f50b19eac433c20e2f0c93", func := "dutyroster/dutykeep.SpanCount", spec := "spanCount", unfollowed := true, recurses := true, apart := false, narrowed := true }
def SpanCountUptoSaid : Prop := spanCountUptoRow.holds Try.pinned (OpenSpec.upto spanCountSpec)

/-- 'dutykeep.SpanNext', WHERE WHAT IT READS IS OF BULK AT MOST 1048576: true; the input reads as it did. -/
def spanNextUptoRow : OpenClaim := { program := "ytmicojghbhhblaa", sum := "b246a8771e1f69b80bcc60aecec80012895f33cc13f50b19eac433c20e2f0c93", func := "dutyroster/dutykeep.SpanNext", spec := "spanNext", unfollowed := true, recurses := true, apart := false, narrowed := true }
def SpanNextUptoSaid : Prop := spanNextUptoRow.holds Try.pinned (OpenSpec.upto spanNextSpec)

/-- 'dutykeep.SpanOf', WHERE WHAT IT READS IS OF BULK AT MOST 1048576: true; the input reads as it did. -/
def spanOfUptoRow : OpenClaim := { program := "ytmicojghbhhblaa", sum := "b246a8771e1f69b80bcc60aecec80012895f33cc13f50b19eac433c20e2f0c93", func := "dutyroster/dutykeep.SpanOf", spec := "spanOf", unfollowed := true, recurses := true, apart := false, narrowed := true }
def SpanOfUptoSaid : Prop := spanOfUptoRow.holds Try.pinned (OpenSpec.upto spanOfSpec)

/-- 'dutykeep.SpanAlgebra', WHERE WHAT IT READS IS OF BULK AT MOST 1048576: true; the input reads as it did. -/
def spanAlgebraUptoRow : OpenClaim := { program := "ytmicojghbhhblaa", sum := "b246a8771e1f69b80bcc60aecec80012895f33cc13f50b19eac433c20e2f0c93", func := "dutyroster/dutykeep.SpanAlgebra", spec := "spanAlgebra", unfollowed := true, recurses := true, apart := false, narrowed := true }
def SpanAlgebraUptoSaid : Prop := spanAlgebraUptoRow.holds Try.pinned (OpenSpec.upto spanAlgebraSpec)

/-- 'dutykeep.SpanMeasure', WHERE WHAT IT READS IS OF BULK AT MOST 1048576: true; the input reads as it did. -/
def spanMeasureUptoRow : OpenClaim := { program := "ytmicojghbhhblaa", sum := "b246a8771e1f69b80bcc60aecec80012895f33cc13f50b19eac433c20e2f0c93", func := "dutyroster/dutykeep.SpanMeasure", spec := "spanMeasure", unfollowed := true, recurses := true, apart := false, narrowed := true }
def SpanMeasureUptoSaid : Prop := spanMeasureUptoRow.holds Try.pinned (OpenSpec.upto spanMeasureSpec)

/-- 'dutykeep.SpanOwn', WHERE WHAT IT READS IS OF BULK AT MOST 1048576: true; the input reads as it did. -/
def spanOwnUptoRow : OpenClaim := { program := "ytmicojghbhhblaa", sum := "b246a8771e1f69b80bcc60aecec80012895f33cc13f50b19eac433c20e2f0c93", func := "dutyroster/dutykeep.SpanOwn", spec := "spanOwn", unfollowed := true, recurses := true, apart := false, narrowed := true }
def SpanOwnUptoSaid : Prop := spanOwnUptoRow.holds Try.pinned (OpenSpec.upto spanOwnSpec)

end Rows
end Go.Proofs.Ytmicojghbhhblaa
