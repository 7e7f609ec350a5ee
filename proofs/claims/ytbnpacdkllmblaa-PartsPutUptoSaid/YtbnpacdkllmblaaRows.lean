/-
  No cell of these rows narrows 'for every input' (looked for: loops, veiled, ifaces, maps, wideKeys, modest, calm, conditions, laid).
  DERIVED. THE GIVEN ROWS OF THIS SEAT. 6 by the template 'for every input the law returns true; each argument reads behind the call as it read before'; 0 by the template 'total and deterministic' (their statements: YtbnpacdkllmblaaTotals.lean).
  GIVEN WITH THE SEED: the statements are not yours to turn. If you find one false, say at which input.
  Laid BY PROGRAM, IN A SANDBOX (cutbox-rows.mjs): the forced cells as the released guide's own fill.sh prints them over the translation c7b2f50e96aff4ba… (all of the seat's roots in one cut). By AI agents, Wed Nov 11 2026. No macro, syntax, notation, axiom, sorry.
-/
import Derived.Test.YtbnpacdkllmblaaChecked
import GoSem.Claim
import GoSem.ClaimJoined
import GoSem.ClaimMapViews
import Derived.JoinedTies
import Derived.KernelRfl
namespace Go.Proofs.Ytbnpacdkllmblaa
/- THE CELL 'sum', in the pinned program and in every row, IS THE sha256 OF THE DUMP (.gsa) THAT YtbnpacdkllmblaaProg.lean LOADS. Nothing in Lean hashes anything: it is a label: what it is worth is what the hold of that sum in a sandbox is worth. -/
noncomputable def Try.pinned : Pinned := { name := "ytbnpacdkllmblaa", sum := "c7b2f50e96aff4bace7f2bba0aa06af93aa4d17ccd76e7de09600d0743368ee9", checked := Try.checked }
namespace Rows
def none {H : Type} : Left H := { results := [], args := [] }

/-- 'dutykeep.PartsTurn': WHATEVER THE INPUT: true; the input reads as it did. -/
def partsTurnSpec : ChangeSpec := { name := "partsTurn", fn := fun _ => fun
  | [d] => { results := [.lit (.bool true)], args := [d] }
  | _ => none }
def partsTurnRow : OpenClaim := { program := "ytbnpacdkllmblaa", sum := "c7b2f50e96aff4bace7f2bba0aa06af93aa4d17ccd76e7de09600d0743368ee9", func := "dutyroster/dutykeep.PartsTurn", spec := "partsTurn", unfollowed := true, recurses := true, apart := false }
def PartsTurnSaid : Prop := partsTurnRow.holds Try.pinned (OpenSpec.ofChange partsTurnSpec)

/-- ITS FALSE NEIGHBOUR: 'it returns false'. Refute it at one input. -/
def partsTurnWrong : ChangeSpec := { name := "partsTurn", fn := fun _ => fun
  | [d] => { results := [.lit (.bool false)], args := [d] }
  | _ => none }
def PartsTurnWrongFalsely : Prop := partsTurnRow.holds Try.pinned (OpenSpec.ofChange partsTurnWrong)

/-- 'dutykeep.PartsCuts': WHATEVER THE INPUT: true; the input reads as it did. -/
def partsCutsSpec : ChangeSpec := { name := "partsCuts", fn := fun _ => fun
  | [d1, d2, d3] => { results := [.lit (.bool true)], args := [d1, d2, d3] }
  | _ => none }
def partsCutsRow : OpenClaim := { program := "ytbnpacdkllmblaa", sum := "c7b2f50e96aff4bace7f2bba0aa06af93aa4d17ccd76e7de09600d0743368ee9", func := "dutyroster/dutykeep.PartsCuts", spec := "partsCuts", unfollowed := true, recurses := true, apart := false }
def PartsCutsSaid : Prop := partsCutsRow.holds Try.pinned (OpenSpec.ofChange partsCutsSpec)

/-- ITS FALSE NEIGHBOUR: 'it returns false'. Refute it at one input. -/
def partsCutsWrong : ChangeSpec := { name := "partsCuts", fn := fun _ => fun
  | [d1, d2, d3] => { results := [.lit (.bool false)], args := [d1, d2, d3] }
  | _ => none }
def PartsCutsWrongFalsely : Prop := partsCutsRow.holds Try.pinned (OpenSpec.ofChange partsCutsWrong)

/-- 'dutykeep.PartsApart': WHATEVER THE INPUT: true; the input reads as it did. -/
def partsApartSpec : ChangeSpec := { name := "partsApart", fn := fun _ => fun
  | [d1, d2, d3, d4] => { results := [.lit (.bool true)], args := [d1, d2, d3, d4] }
  | _ => none }
def partsApartRow : OpenClaim := { program := "ytbnpacdkllmblaa", sum := "c7b2f50e96aff4bace7f2bba0aa06af93aa4d17ccd76e7de09600d0743368ee9", func := "dutyroster/dutykeep.PartsApart", spec := "partsApart", unfollowed := true, recurses := true, apart := false }
def PartsApartSaid : Prop := partsApartRow.holds Try.pinned (OpenSpec.ofChange partsApartSpec)

/-- ITS FALSE NEIGHBOUR: 'it returns false'. Refute it at one input. -/
def partsApartWrong : ChangeSpec := { name := "partsApart", fn := fun _ => fun
  | [d1, d2, d3, d4] => { results := [.lit (.bool false)], args := [d1, d2, d3, d4] }
  | _ => none }
def PartsApartWrongFalsely : Prop := partsApartRow.holds Try.pinned (OpenSpec.ofChange partsApartWrong)

/-- 'dutykeep.PartsOwn': WHATEVER THE INPUT: true; the input reads as it did. -/
def partsOwnSpec : ChangeSpec := { name := "partsOwn", fn := fun _ => fun
  | [d1, d2, d3] => { results := [.lit (.bool true)], args := [d1, d2, d3] }
  | _ => none }
def partsOwnRow : OpenClaim := { program := "ytbnpacdkllmblaa", sum := "c7b2f50e96aff4bace7f2bba0aa06af93aa4d17ccd76e7de09600d0743368ee9", func := "dutyroster/dutykeep.PartsOwn", spec := "partsOwn", unfollowed := true, recurses := true, apart := false }
def PartsOwnSaid : Prop := partsOwnRow.holds Try.pinned (OpenSpec.ofChange partsOwnSpec)

/-- ITS FALSE NEIGHBOUR: 'it returns false'. Refute it at one input. -/
def partsOwnWrong : ChangeSpec := { name := "partsOwn", fn := fun _ => fun
  | [d1, d2, d3] => { results := [.lit (.bool false)], args := [d1, d2, d3] }
  | _ => none }
def PartsOwnWrongFalsely : Prop := partsOwnRow.holds Try.pinned (OpenSpec.ofChange partsOwnWrong)

/-- 'dutykeep.PartsTime': WHATEVER THE INPUT: true; the input reads as it did. -/
def partsTimeSpec : ChangeSpec := { name := "partsTime", fn := fun _ => fun
  | [d1, d2, d3] => { results := [.lit (.bool true)], args := [d1, d2, d3] }
  | _ => none }
def partsTimeRow : OpenClaim := { program := "ytbnpacdkllmblaa", sum := "c7b2f50e96aff4bace7f2bba0aa06af93aa4d17ccd76e7de09600d0743368ee9", func := "dutyroster/dutykeep.PartsTime", spec := "partsTime", unfollowed := true, recurses := true, apart := false }
def PartsTimeSaid : Prop := partsTimeRow.holds Try.pinned (OpenSpec.ofChange partsTimeSpec)

/-- ITS FALSE NEIGHBOUR: 'it returns false'. Refute it at one input. -/
def partsTimeWrong : ChangeSpec := { name := "partsTime", fn := fun _ => fun
  | [d1, d2, d3] => { results := [.lit (.bool false)], args := [d1, d2, d3] }
  | _ => none }
def PartsTimeWrongFalsely : Prop := partsTimeRow.holds Try.pinned (OpenSpec.ofChange partsTimeWrong)

/-- 'dutykeep.PartsPut': WHATEVER THE INPUT: true; the input reads as it did. -/
def partsPutSpec : ChangeSpec := { name := "partsPut", fn := fun _ => fun
  | [d1, d2, d3, d4, d5] => { results := [.lit (.bool true)], args := [d1, d2, d3, d4, d5] }
  | _ => none }
def partsPutRow : OpenClaim := { program := "ytbnpacdkllmblaa", sum := "c7b2f50e96aff4bace7f2bba0aa06af93aa4d17ccd76e7de09600d0743368ee9", func := "dutyroster/dutykeep.PartsPut", spec := "partsPut", unfollowed := true, recurses := true, apart := false }
def PartsPutSaid : Prop := partsPutRow.holds Try.pinned (OpenSpec.ofChange partsPutSpec)

/-- ITS FALSE NEIGHBOUR: 'it returns false'. Refute it at one input. -/
def partsPutWrong : ChangeSpec := { name := "partsPut", fn := fun _ => fun
  | [d1, d2, d3, d4, d5] => { results := [.lit (.bool false)], args := [d1, d2, d3, d4, d5] }
  | _ => none }
def PartsPutWrongFalsely : Prop := partsPutRow.holds Try.pinned (OpenSpec.ofChange partsPutWrong)

/- THE SECOND FORM. 'bulk': how many values and letters a reading holds, each counted each time it is reached (what is shared counts as often as it is met; a slice's spare places count too). A statement '..UptoSaid' is the law's where the arguments, and the package variables that the reading takes, are together of bulk at most 1048576: NARROWER than '..Said'. Prove '..Said' where nothing that the law and all that it calls make is longer than what came in: it says more and counts as full. Else prove '..UptoSaid'. A law counts once. -/
mutual
def uptoBulk {H : Type} : DataW H → Nat
  | .lit (.string bytes) => bytes.length + 1
  | .lit _ => 1
  | .nil => 1
  | .ptr d => uptoBulk d + 1
  | .slice elems spare => uptoBulkAll elems + uptoBulkAll spare + 1
  | .agg parts => uptoBulkAll parts + 1
  | .iface _ d => uptoBulk d + 1
  | .map entries => uptoBulkEntries entries + 1
  | .held _ => 1
def uptoBulkAll {H : Type} : List (DataW H) → Nat
  | [] => 0
  | d :: r => uptoBulk d + uptoBulkAll r
def uptoBulkEntries {H : Type} : List (Lit × DataW H) → Nat
  | [] => 0
  | x :: r => uptoBulkEntry x + uptoBulkEntries r
def uptoBulkEntry {H : Type} : Lit × DataW H → Nat
  | (.string bytes, d) => bytes.length + uptoBulk d + 1
  | (_, d) => uptoBulk d + 1
 end
def uptoSmall : (H : Type) → List (DataW H) → Bool := fun _ ds => decide (uptoBulkAll ds ≤ 1048576)
def OpenSpec.upto (s : _root_.Go.ChangeSpec) : _root_.Go.OpenSpec := { _root_.Go.OpenSpec.ofChange s with cond := some uptoSmall }

/-- 'dutykeep.PartsTurn', WHERE WHAT IT READS IS OF BULK AT MOST 1048576: true; the input reads as it did. -/
def partsTurnUptoRow : OpenClaim := { program := "ytbnpacdkllmblaa", sum := "c7b2f50e96aff4bace7f2bba0aa06af93aa4d17ccd76e7de09600d0743368ee9", func := "dutyroster/dutykeep.PartsTurn", spec := "partsTurn", unfollowed := true, recurses := true, apart := false, narrowed := true }
def PartsTurnUptoSaid : Prop := partsTurnUptoRow.holds Try.pinned (OpenSpec.upto partsTurnSpec)

/-- 'dutykeep.PartsCuts', WHERE WHAT IT READS IS OF BULK AT MOST 1048576: true; the input reads as it did. -/
def partsCutsUptoRow : OpenClaim := { program := "ytbnpacdkllmblaa", sum := "c7b2f50e96aff4bace7f2bba0aa06af93aa4d17ccd76e7de09600d0743368ee9", func := "dutyroster/dutykeep.PartsCuts", spec := "partsCuts", unfollowed := true, recurses := true, apart := false, narrowed := true }
def PartsCutsUptoSaid : Prop := partsCutsUptoRow.holds Try.pinned (OpenSpec.upto partsCutsSpec)

/-- 'dutykeep.PartsApart', WHERE WHAT IT READS IS OF BULK AT MOST 1048576: true; the input reads as it did. -/
def partsApartUptoRow : OpenClaim := { program := "ytbnpacdkllmblaa", sum := "c7b2f50e96aff4bace7f2bba0aa06af93aa4d17ccd76e7de09600d0743368ee9", func := "dutyroster/dutykeep.PartsApart", spec := "partsApart", unfollowed := true, recurses := true, apart := false, narrowed := true }
def PartsApartUptoSaid : Prop := partsApartUptoRow.holds Try.pinned (OpenSpec.upto partsApartSpec)

/-- 'dutykeep.PartsOwn', WHERE WHAT IT READS IS OF BULK AT MOST 1048576: true; the input reads as it did. -/
def partsOwnUptoRow : OpenClaim := { program := "ytbnpacdkllmblaa", sum := "c7b2f50e96aff4bace7f2bba0aa06af93aa4d17ccd76e7de09600d0743368ee9", func := "dutyroster/dutykeep.PartsOwn", spec := "partsOwn", unfollowed := true, recurses := true, apart := false, narrowed := true }
def PartsOwnUptoSaid : Prop := partsOwnUptoRow.holds Try.pinned (OpenSpec.upto partsOwnSpec)

/-- 'dutykeep.PartsTime', WHERE WHAT IT READS IS OF BULK AT MOST 1048576: true; the input reads as it did. -/
def partsTimeUptoRow : OpenClaim := { program := "ytbnpacdkllmblaa", sum := "c7b2f50e96aff4bace7f2bba0aa06af93aa4d17ccd76e7de09600d0743368ee9", func := "dutyroster/dutykeep.PartsTime", spec := "partsTime", unfollowed := true, recurses := true, apart := false, narrowed := true }
def PartsTimeUptoSaid : Prop := partsTimeUptoRow.holds Try.pinned (OpenSpec.upto partsTimeSpec)

/-- 'dutykeep.PartsPut', WHERE WHAT IT READS IS OF BULK AT MOST 1048576: true; the input reads as it did. -/
def partsPutUptoRow : OpenClaim := { program := "ytbnpacdkllmblaa", sum := "c7b2f50e96aff4bace7f2bba0aa06af93aa4d17ccd76e7de09600d0743368ee9", func := "dutyroster/dutykeep.PartsPut", spec := "partsPut", unfollowed := true, recurses := true, apart := false, narrowed := true }
def PartsPutUptoSaid : Prop := partsPutUptoRow.holds Try.pinned (OpenSpec.upto partsPutSpec)

end Rows
end Go.Proofs.Ytbnpacdkllmblaa
