/-
  No cell of these rows narrows 'for every input' (looked for: loops, veiled, ifaces, maps, wideKeys, modest, calm, conditions, laid).
  DERIVED. THE GIVEN ROWS OF THIS SEAT. 5 by the template 'for every input the law returns true; each argument reads behind the call as it read before'; 0 by the template 'total and deterministic' (their statements: YtpofgnocliaahaaTotals.lean).
  GIVEN WITH THE SEED: the statements are not yours to turn. If you find one false, say at which input.
  Laid BY PROGRAM, IN A SANDBOX (cutbox-rows.mjs): the forced cells as the released guide's own fill.sh prints them over the translation 639dfa80d349289a… (all of the seat's roots in one cut). By AI agents, Wed Nov 11 2026. No macro, syntax, notation, axiom, sorry.
-/
import Derived.Test.YtpofgnocliaahaaChecked
import GoSem.Claim
import GoSem.ClaimJoined
import GoSem.ClaimMapViews
import Derived.JoinedTies
import Derived.KernelRfl
namespace Go.Proofs.Ytpofgnocliaahaa
/- THE CELL 'sum', in the pinned program and in every row, IS THE sha256 OF THE DUMP (.gsa) THAT YtpofgnocliaahaaProg.lean LOADS. Nothing in Lean hashes anything: it is a label: what it is worth is what the hold of that sum in a sandbox is worth. -/
noncomputable def Try.pinned : Pinned := { name := "ytpofgnocliaahaa", sum := "639dfa80d349289a36e29dcfe3eeef0b902d5d43338c876895d7d8992812c48b", checked := Try.checked }
namespace Rows
def none {H : Type} : Left H := { results := [], args := [] }

/-- 'dutykeep.MedianJoin': WHATEVER THE INPUT: true; the input reads as it did. -/
def medianJoinSpec : ChangeSpec := { name := "medianJoin", fn := fun _ => fun
  | [d1, d2] => { results := [.lit (.bool true)], args := [d1, d2] }
  | _ => none }
def medianJoinRow : OpenClaim := { program := "ytpofgnocliaahaa", sum := "639dfa80d349289a36e29dcfe3eeef0b902d5d43338c876895d7d8992812c48b", func := "dutyroster/dutykeep.MedianJoin", spec := "medianJoin", unfollowed := true, recurses := true, apart := false }
def MedianJoinSaid : Prop := medianJoinRow.holds Try.pinned (OpenSpec.ofChange medianJoinSpec)

/-- ITS FALSE NEIGHBOUR: 'it returns false'. Refute it at one input. -/
def medianJoinWrong : ChangeSpec := { name := "medianJoin", fn := fun _ => fun
  | [d1, d2] => { results := [.lit (.bool false)], args := [d1, d2] }
  | _ => none }
def MedianJoinWrongFalsely : Prop := medianJoinRow.holds Try.pinned (OpenSpec.ofChange medianJoinWrong)

/-- 'dutykeep.MedianWithin': WHATEVER THE INPUT: true; the input reads as it did. -/
def medianWithinSpec : ChangeSpec := { name := "medianWithin", fn := fun _ => fun
  | [d1, d2, d3] => { results := [.lit (.bool true)], args := [d1, d2, d3] }
  | _ => none }
def medianWithinRow : OpenClaim := { program := "ytpofgnocliaahaa", sum := "639dfa80d349289a36e29dcfe3eeef0b902d5d43338c876895d7d8992812c48b", func := "dutyroster/dutykeep.MedianWithin", spec := "medianWithin", unfollowed := true, recurses := true, apart := false }
def MedianWithinSaid : Prop := medianWithinRow.holds Try.pinned (OpenSpec.ofChange medianWithinSpec)

/-- ITS FALSE NEIGHBOUR: 'it returns false'. Refute it at one input. -/
def medianWithinWrong : ChangeSpec := { name := "medianWithin", fn := fun _ => fun
  | [d1, d2, d3] => { results := [.lit (.bool false)], args := [d1, d2, d3] }
  | _ => none }
def MedianWithinWrongFalsely : Prop := medianWithinRow.holds Try.pinned (OpenSpec.ofChange medianWithinWrong)

/-- 'dutykeep.MedianAny': WHATEVER THE INPUT: true; the input reads as it did. -/
def medianAnySpec : ChangeSpec := { name := "medianAny", fn := fun _ => fun
  | [d1, d2, d3] => { results := [.lit (.bool true)], args := [d1, d2, d3] }
  | _ => none }
def medianAnyRow : OpenClaim := { program := "ytpofgnocliaahaa", sum := "639dfa80d349289a36e29dcfe3eeef0b902d5d43338c876895d7d8992812c48b", func := "dutyroster/dutykeep.MedianAny", spec := "medianAny", unfollowed := true, recurses := true, apart := false }
def MedianAnySaid : Prop := medianAnyRow.holds Try.pinned (OpenSpec.ofChange medianAnySpec)

/-- ITS FALSE NEIGHBOUR: 'it returns false'. Refute it at one input. -/
def medianAnyWrong : ChangeSpec := { name := "medianAny", fn := fun _ => fun
  | [d1, d2, d3] => { results := [.lit (.bool false)], args := [d1, d2, d3] }
  | _ => none }
def MedianAnyWrongFalsely : Prop := medianAnyRow.holds Try.pinned (OpenSpec.ofChange medianAnyWrong)

/-- 'dutykeep.MedianHalves': WHATEVER THE INPUT: true; the input reads as it did. -/
def medianHalvesSpec : ChangeSpec := { name := "medianHalves", fn := fun _ => fun
  | [d1, d2, d3, d4] => { results := [.lit (.bool true)], args := [d1, d2, d3, d4] }
  | _ => none }
def medianHalvesRow : OpenClaim := { program := "ytpofgnocliaahaa", sum := "639dfa80d349289a36e29dcfe3eeef0b902d5d43338c876895d7d8992812c48b", func := "dutyroster/dutykeep.MedianHalves", spec := "medianHalves", unfollowed := true, recurses := true, apart := false }
def MedianHalvesSaid : Prop := medianHalvesRow.holds Try.pinned (OpenSpec.ofChange medianHalvesSpec)

/-- ITS FALSE NEIGHBOUR: 'it returns false'. Refute it at one input. -/
def medianHalvesWrong : ChangeSpec := { name := "medianHalves", fn := fun _ => fun
  | [d1, d2, d3, d4] => { results := [.lit (.bool false)], args := [d1, d2, d3, d4] }
  | _ => none }
def MedianHalvesWrongFalsely : Prop := medianHalvesRow.holds Try.pinned (OpenSpec.ofChange medianHalvesWrong)

/-- 'dutykeep.MedianBest': WHATEVER THE INPUT: true; the input reads as it did. -/
def medianBestSpec : ChangeSpec := { name := "medianBest", fn := fun _ => fun
  | [d1, d2, d3] => { results := [.lit (.bool true)], args := [d1, d2, d3] }
  | _ => none }
def medianBestRow : OpenClaim := { program := "ytpofgnocliaahaa", sum := "639dfa80d349289a36e29dcfe3eeef0b902d5d43338c876895d7d8992812c48b", func := "dutyroster/dutykeep.MedianBest", spec := "medianBest", unfollowed := true, recurses := true, apart := false }
def MedianBestSaid : Prop := medianBestRow.holds Try.pinned (OpenSpec.ofChange medianBestSpec)

/-- ITS FALSE NEIGHBOUR: 'it returns false'. Refute it at one input. -/
def medianBestWrong : ChangeSpec := { name := "medianBest", fn := fun _ => fun
  | [d1, d2, d3] => { results := [.lit (.bool false)], args := [d1, d2, d3] }
  | _ => none }
def MedianBestWrongFalsely : Prop := medianBestRow.holds Try.pinned (OpenSpec.ofChange medianBestWrong)

/- THE SECOND FORM. 'bulk': how many values and letters a reading holds, each counted each time it is reached (what is shared counts as often as it is met; a slice's spare places count too). A statement '..UptoSaid' is the law's where the arguments, and the package variables that the reading takes, are together of bulk at most 1048576: NARROWER than '..Said'. Prove '..Said' where nothing that the law and all that it calls make is longer than what came in: it says more and counts as full. Else prove '..UptoSaid'. A law counts once. -/
mutual
def uptoBulk {H : Type} : DataW H → Nat
  | .lit (.string bytes) => bytes.length + 1
  | .lit _ => 1
  | .nil => 1
  | .ptr d => uptoBulk d + 1
  | .slice elems spare => uptoBulkAll elems + uptoBulkAll spare + 1
  | .agg parts => uptoBulkAll parts + 1
  | .iface _ d => uptoBulk d + 1
  | .map entries => uptoBulkEntries entries + 1
  | .held _ => 1
def uptoBulkAll {H : Type} : List (DataW H) → Nat
  | [] => 0
  | d :: r => uptoBulk d + uptoBulkAll r
def uptoBulkEntries {H : Type} : List (Lit × DataW H) → Nat
  | [] => 0
  | x :: r => uptoBulkEntry x + uptoBulkEntries r
def uptoBulkEntry {H : Type} : Lit × DataW H → Nat
  | (.string bytes, d) => bytes.length + uptoBulk d + 1
  | (_, d) => uptoBulk d + 1
 end
def uptoSmall : (H : Type) → List (DataW H) → Bool := fun _ ds => decide (uptoBulkAll ds ≤ 1048576)
def OpenSpec.upto (s : _root_.Go.ChangeSpec) : _root_.Go.OpenSpec := { _root_.Go.OpenSpec.ofChange s with cond := some uptoSmall }

/-- 'dutykeep.MedianJoin', WHERE WHAT IT READS IS OF BULK AT MOST 1048576: true; the input reads as it did. -/
def medianJoinUptoRow : OpenClaim := { program := "ytpofgnocliaahaa", sum := "639dfa80d349289a36e29dcfe3eeef0b902d5d43338c876895d7d8992812c48b", func := "dutyroster/dutykeep.MedianJoin", spec := "medianJoin", unfollowed := true, recurses := true, apart := false, narrowed := true }
def MedianJoinUptoSaid : Prop := medianJoinUptoRow.holds Try.pinned (OpenSpec.upto medianJoinSpec)

/-- 'dutykeep.MedianWithin', WHERE WHAT IT READS IS OF BULK AT MOST 1048576: true; the input reads as it did. -/
def medianWithinUptoRow : OpenClaim := { program := "ytpofgnocliaahaa", sum := "639dfa80d349289a36e29dcfe3eeef0b902d5d43338c876895d7d8992812c48b", func := "dutyroster/dutykeep.MedianWithin", spec := "medianWithin", unfollowed := true, recurses := true, apart := false, narrowed := true }
def MedianWithinUptoSaid : Prop := medianWithinUptoRow.holds Try.pinned (OpenSpec.upto medianWithinSpec)

/-- 'dutykeep.MedianAny', WHERE WHAT IT READS IS OF BULK AT MOST 1048576: true; the input reads as it did. -/
def medianAnyUptoRow : OpenClaim := { program := "ytpofgnocliaahaa", sum := "639dfa80d349289a36e29dcfe3eeef0b902d5d43338c876895d7d8992812c48b", func := "dutyroster/dutykeep.MedianAny", spec := "medianAny", unfollowed := true, recurses := true, apart := false, narrowed := true }
def MedianAnyUptoSaid : Prop := medianAnyUptoRow.holds Try.pinned (OpenSpec.upto medianAnySpec)

/-- 'dutykeep.MedianHalves', WHERE WHAT IT READS IS OF BULK AT MOST 1048576: true; the input reads as it did. -/
def medianHalvesUptoRow : OpenClaim := { program := "ytpofgnocliaahaa", sum := "639dfa80d349289a36e29dcfe3eeef0b902d5d43338c876895d7d8992812c48b", func := "dutyroster/dutykeep.MedianHalves", spec := "medianHalves", unfollowed := true, recurses := true, apart := false, narrowed := true }
def MedianHalvesUptoSaid : Prop := medianHalvesUptoRow.holds Try.pinned (OpenSpec.upto medianHalvesSpec)

/-- 'dutykeep.MedianBest', WHERE WHAT IT READS IS OF BULK AT MOST 1048576: true; the input reads as it did. -/
def medianBestUptoRow : OpenClaim := { program := "ytpofgnocliaahaa", sum := "639dfa80d349289a36e29dcfe3eeef0b902d5d43338c876895d7d8992812c48b", func := "dutyroster/dutykeep.MedianBest", spec := "medianBest", unfollowed := true, recurses := true, apart := false, narrowed := true }
def MedianBestUptoSaid : Prop := medianBestUptoRow.holds Try.pinned (OpenSpec.upto medianBestSpec)

end Rows
end Go.Proofs.Ytpofgnocliaahaa
