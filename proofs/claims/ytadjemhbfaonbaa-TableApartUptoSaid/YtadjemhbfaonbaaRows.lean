/-
  No cell of these rows narrows 'for every input' (looked for: loops, veiled, ifaces, maps, wideKeys, modest, calm, conditions, laid).
  DERIVED. THE GIVEN ROWS OF THIS SEAT. 4 by the template 'for every input the law returns true; each argument reads behind the call as it read before'; 0 by the template 'total and deterministic' (their statements: YtadjemhbfaonbaaTotals.lean).
  GIVEN WITH THE SEED: the statements are not yours to turn. If you find one false, say at which input.
  Laid BY PROGRAM, IN A SANDBOX (cutbox-rows.mjs): the forced cells as the released guide's own fill.sh prints them over the translation 81dc695646e6afe9… (all of the seat's roots in one cut). By AI agents, Wed Nov 11 2026. No macro, syntax, notation, axiom, sorry.
-/
import Derived.Test.YtadjemhbfaonbaaChecked
import GoSem.Claim
import GoSem.ClaimJoined
import GoSem.ClaimMapViews
import Derived.JoinedTies
import Derived.KernelRfl
namespace Go.Proofs.Ytadjemhbfaonbaa
/- THE CELL 'sum', in the pinned program and in every row, IS THE sha256 OF THE DUMP (.gsa) THAT YtadjemhbfaonbaaProg.lean LOADS. Nothing in Lean hashes anything: it is a label: what it is worth is what the hold of that sum in a sandbox is worth. -/
noncomputable def Try.pinned : Pinned := { name := "ytadjemhbfaonbaa", sum := "81dc695646e6afe9a298e12f03c888eeb2dd3b9781fcd97990fa05da836520c7", checked := Try.checked }
namespace Rows
def none {H : Type} : Left H := { results := [], args := [] }

/-- 'dutykeep.TableLater': WHATEVER THE INPUT: true; the input reads as it did. -/
def tableLaterSpec : ChangeSpec := { name := "tableLater", fn := fun _ => fun
  | [d1, d2, d3] => { results := [.lit (.bool true)], args := [d1, d2, d3] }
  | _ => none }
def tableLaterRow : OpenClaim := { program := "ytadjemhbfaonbaa", sum := "81dc695646e6afe9a298e12f03c888eeb2dd3b9781fcd97990fa05da836520c7", func := "dutyroster/dutykeep.TableLater", spec := "tableLater", unfollowed := true, recurses := true, apart := false }
def TableLaterSaid : Prop := tableLaterRow.holds Try.pinned (OpenSpec.ofChange tableLaterSpec)

/-- ITS FALSE NEIGHBOUR: 'it returns false'. Refute it at one input. -/
def tableLaterWrong : ChangeSpec := { name := "tableLater", fn := fun _ => fun
  | [d1, d2, d3] => { results := [.lit (.bool false)], args := [d1, d2, d3] }
  | _ => none }
def TableLaterWrongFalsely : Prop := tableLaterRow.holds Try.pinned (OpenSpec.ofChange tableLaterWrong)

/-- 'dutykeep.TableWants': WHATEVER THE INPUT: true; the input reads as it did. -/
def tableWantsSpec : ChangeSpec := { name := "tableWants", fn := fun _ => fun
  | [d1, d2, d3, d4, d5] => { results := [.lit (.bool true)], args := [d1, d2, d3, d4, d5] }
  | _ => none }
def tableWantsRow : OpenClaim := { program := "ytadjemhbfaonbaa", sum := "81dc695646e6afe9a298e12f03c888eeb2dd3b9781fcd97990fa05da836520c7", func := "dutyroster/dutykeep.TableWants", spec := "tableWants", unfollowed := true, recurses := true, apart := false }
def TableWantsSaid : Prop := tableWantsRow.holds Try.pinned (OpenSpec.ofChange tableWantsSpec)

/-- ITS FALSE NEIGHBOUR: 'it returns false'. Refute it at one input. -/
def tableWantsWrong : ChangeSpec := { name := "tableWants", fn := fun _ => fun
  | [d1, d2, d3, d4, d5] => { results := [.lit (.bool false)], args := [d1, d2, d3, d4, d5] }
  | _ => none }
def TableWantsWrongFalsely : Prop := tableWantsRow.holds Try.pinned (OpenSpec.ofChange tableWantsWrong)

/-- 'dutykeep.TableTurn': WHATEVER THE INPUT: true; the input reads as it did. -/
def tableTurnSpec : ChangeSpec := { name := "tableTurn", fn := fun _ => fun
  | [d1, d2, d3] => { results := [.lit (.bool true)], args := [d1, d2, d3] }
  | _ => none }
def tableTurnRow : OpenClaim := { program := "ytadjemhbfaonbaa", sum := "81dc695646e6afe9a298e12f03c888eeb2dd3b9781fcd97990fa05da836520c7", func := "dutyroster/dutykeep.TableTurn", spec := "tableTurn", unfollowed := true, recurses := true, apart := false }
def TableTurnSaid : Prop := tableTurnRow.holds Try.pinned (OpenSpec.ofChange tableTurnSpec)

/-- ITS FALSE NEIGHBOUR: 'it returns false'. Refute it at one input. -/
def tableTurnWrong : ChangeSpec := { name := "tableTurn", fn := fun _ => fun
  | [d1, d2, d3] => { results := [.lit (.bool false)], args := [d1, d2, d3] }
  | _ => none }
def TableTurnWrongFalsely : Prop := tableTurnRow.holds Try.pinned (OpenSpec.ofChange tableTurnWrong)

/-- 'dutykeep.TableApart': WHATEVER THE INPUT: true; the input reads as it did. -/
def tableApartSpec : ChangeSpec := { name := "tableApart", fn := fun _ => fun
  | [d1, d2, d3, d4] => { results := [.lit (.bool true)], args := [d1, d2, d3, d4] }
  | _ => none }
def tableApartRow : OpenClaim := { program := "ytadjemhbfaonbaa", sum := "81dc695646e6afe9a298e12f03c888eeb2dd3b9781fcd97990fa05da836520c7", func := "dutyroster/dutykeep.TableApart", spec := "tableApart", unfollowed := true, recurses := true, apart := false }
def TableApartSaid : Prop := tableApartRow.holds Try.pinned (OpenSpec.ofChange tableApartSpec)

/-- ITS FALSE NEIGHBOUR: 'it returns false'. Refute it at one input. -/
def tableApartWrong : ChangeSpec := { name := "tableApart", fn := fun _ => fun
  | [d1, d2, d3, d4] => { results := [.lit (.bool false)], args := [d1, d2, d3, d4] }
  | _ => none }
def TableApartWrongFalsely : Prop := tableApartRow.holds Try.pinned (OpenSpec.ofChange tableApartWrong)

/- THE SECOND FORM. 'bulk': how many values and letters a reading holds, each counted each time it is reached (what is shared counts as often as it is met; a slice's spare places count too). A statement '..UptoSaid' is the law's where the arguments, and the package variables that the reading takes, are together of bulk at most 1048576: NARROWER than '..Said'. Prove '..Said' where nothing that the law and all that it calls make is longer than what came in: it says more and counts as full. Else prove '..UptoSaid'. A law counts once. -/
mutual
def uptoBulk {H : Type} : DataW H → Nat
  | .lit (.string bytes) => bytes.length + 1
  | .lit _ => 1
  | .nil => 1
  | .ptr d => uptoBulk d + 1
  | .slice elems spare => uptoBulkAll elems + uptoBulkAll spare + 1
  | .agg parts => uptoBulkAll parts + 1
  | .iface _ d => uptoBulk d + 1
  | .map entries => uptoBulkEntries entries + 1
  | .held _ => 1
def uptoBulkAll {H : Type} : List (DataW H) → Nat
  | [] => 0
  | d :: r => uptoBulk d + uptoBulkAll r
def uptoBulkEntries {H : Type} : List (Lit × DataW H) → Nat
  | [] => 0
  | x :: r => uptoBulkEntry x + uptoBulkEntries r
def uptoBulkEntry {H : Type} : Lit × DataW H → Nat
  | (.string bytes, d) => bytes.length + uptoBulk d + 1
  | (_, d) => uptoBulk d + 1
 end
def uptoSmall : (H : Type) → List (DataW H) → Bool := fun _ ds => decide (uptoBulkAll ds ≤ 1048576)
def OpenSpec.upto (s : _root_.Go.ChangeSpec) : _root_.Go.OpenSpec := { _root_.Go.OpenSpec.ofChange s with cond := some uptoSmall }

/-- 'dutykeep.TableLater', WHERE WHAT IT READS IS OF BULK AT MOST 1048576: true; the input reads as it did. -/
def tableLaterUptoRow : OpenClaim := { program := "ytadjemhbfaonbaa", sum := "81dc695646e6afe9a298e12f03c888eeb2dd3b9781fcd97990fa05da836520c7", func := "dutyroster/dutykeep.TableLater", spec := "tableLater", unfollowed := true, recurses := true, apart := false, narrowed := true }
def TableLaterUptoSaid : Prop := tableLaterUptoRow.holds Try.pinned (OpenSpec.upto tableLaterSpec)

/-- 'dutykeep.TableWants', WHERE WHAT IT READS IS OF BULK AT MOST 1048576: true; the input reads as it did. -/
def tableWantsUptoRow : OpenClaim := { program := "ytadjemhbfaonbaa", sum := "81dc695646e6afe9a298e12f03c888eeb2dd3b9781fcd97990fa05da836520c7", func := "dutyroster/dutykeep.TableWants", spec := "tableWants", unfollowed := true, recurses := true, apart := false, narrowed := true }
def TableWantsUptoSaid : Prop := tableWantsUptoRow.holds Try.pinned (OpenSpec.upto tableWantsSpec)

/-- 'dutykeep.TableTurn', WHERE WHAT IT READS IS OF BULK AT MOST 1048576: true; the input reads as it did. -/
def tableTurnUptoRow : OpenClaim := { program := "ytadjemhbfaonbaa", sum := "81dc695646e6afe9a298e12f03c888eeb2dd3b9781fcd97990fa05da836520c7", func := "dutyroster/dutykeep.TableTurn", spec := "tableTurn", unfollowed := true, recurses := true, apart := false, narrowed := true }
def TableTurnUptoSaid : Prop := tableTurnUptoRow.holds Try.pinned (OpenSpec.upto tableTurnSpec)

/-- 'dutykeep.TableApart', WHERE WHAT IT READS IS OF BULK AT MOST 1048576: true; the input reads as it did. -/
def tableApartUptoRow : OpenClaim := { program := "ytadjemhbfaonbaa", sum := "81dc695646e6afe9a298e12f03c888eeb2dd3b9781fcd97990fa05da836520c7", func := "dutyroster/dutykeep.TableApart", spec := "tableApart", unfollowed := true, recurses := true, apart := false, narrowed := true }
def TableApartUptoSaid : Prop := tableApartUptoRow.holds Try.pinned (OpenSpec.upto tableApartSpec)

end Rows
end Go.Proofs.Ytadjemhbfaonbaa
