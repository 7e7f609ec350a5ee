/-
  No cell of these rows narrows 'for every input' (looked for: loops, veiled, ifaces, maps, wideKeys, modest, calm, conditions, laid).
  DERIVED. THE GIVEN ROWS OF THIS SEAT. 4 by the template 'for every input the law returns true; each argument reads behind the call as it read before'; 0 by the template 'total and deterministic' (their statements: YthojlodlfgagmaaTotals.lean).
  GIVEN WITH THE SEED: the statements are not yours to turn. If you find one false, say at which input.
  Laid BY PROGRAM, IN A SANDBOX (cutbox-rows.mjs): the forced cells as the released guide's own fill.sh prints them over the translation 38a172f1afa45afd… (all of the seat's roots in one cut). By AI agents, Wed Nov 11 2026. No macro, syntax, notation, axiom, sorry.
-/
import Derived.Test.YthojlodlfgagmaaChecked
import GoSem.Claim
import GoSem.ClaimJoined
import GoSem.ClaimMapViews
import Derived.JoinedTies
import Derived.KernelRfl
namespace Go.Proofs.Ythojlodlfgagmaa
/- THE CELL 'sum', in the pinned program and in every row, IS THE sha256 OF THE DUMP (.gsa) THAT YthojlodlfgagmaaProg.lean LOADS. Nothing in Lean hashes anything: it is a label: what it is worth is what the hold of that sum in a sandbox is worth. -/
noncomputable def Try.pinned : Pinned := { name := "ythojlodlfgagmaa", sum := "38a172f1afa45afdf3fbaed3851f6e1f76daff6f97adf730b5c7aa157aa51e3f", checked := Try.checked }
namespace Rows
def none {H : Type} : Left H := { results := [], args := [] }

/-- 'dutykeep.PortOnce': WHATEVER THE INPUT: true; the input reads as it did. -/
def portOnceSpec : ChangeSpec := { name := "portOnce", fn := fun _ => fun
  | [d1, d2, d3] => { results := [.lit (.bool true)], args := [d1, d2, d3] }
  | _ => none }
def portOnceRow : OpenClaim := { program := "ythojlodlfgagmaa", sum := "38a172f1afa45afdf3fbaed3851f6e1f76daff6f97adf730b5c7aa157aa51e3f", func := "dutyroster/dutykeep.PortOnce", spec := "portOnce", unfollowed := true, recurses := true, apart := false }
def PortOnceSaid : Prop := portOnceRow.holds Try.pinned (OpenSpec.ofChange portOnceSpec)

/-- ITS FALSE NEIGHBOUR: 'it returns false'. Refute it at one input. -/
def portOnceWrong : ChangeSpec := { name := "portOnce", fn := fun _ => fun
  | [d1, d2, d3] => { results := [.lit (.bool false)], args := [d1, d2, d3] }
  | _ => none }
def PortOnceWrongFalsely : Prop := portOnceRow.holds Try.pinned (OpenSpec.ofChange portOnceWrong)

/-- 'dutykeep.PortLast': WHATEVER THE INPUT: true; the input reads as it did. -/
def portLastSpec : ChangeSpec := { name := "portLast", fn := fun _ => fun
  | [d1, d2, d3] => { results := [.lit (.bool true)], args := [d1, d2, d3] }
  | _ => none }
def portLastRow : OpenClaim := { program := "ythojlodlfgagmaa", sum := "38a172f1afa45afdf3fbaed3851f6e1f76daff6f97adf730b5c7aa157aa51e3f", func := "dutyroster/dutykeep.PortLast", spec := "portLast", unfollowed := true, recurses := true, apart := false }
def PortLastSaid : Prop := portLastRow.holds Try.pinned (OpenSpec.ofChange portLastSpec)

/-- ITS FALSE NEIGHBOUR: 'it returns false'. Refute it at one input. -/
def portLastWrong : ChangeSpec := { name := "portLast", fn := fun _ => fun
  | [d1, d2, d3] => { results := [.lit (.bool false)], args := [d1, d2, d3] }
  | _ => none }
def PortLastWrongFalsely : Prop := portLastRow.holds Try.pinned (OpenSpec.ofChange portLastWrong)

/-- 'dutykeep.PortRefused': WHATEVER THE INPUT: true; the input reads as it did. -/
def portRefusedSpec : ChangeSpec := { name := "portRefused", fn := fun _ => fun
  | [d1, d2, d3, d4, d5] => { results := [.lit (.bool true)], args := [d1, d2, d3, d4, d5] }
  | _ => none }
def portRefusedRow : OpenClaim := { program := "ythojlodlfgagmaa", sum := "38a172f1afa45afdf3fbaed3851f6e1f76daff6f97adf730b5c7aa157aa51e3f", func := "dutyroster/dutykeep.PortRefused", spec := "portRefused", unfollowed := true, recurses := true, apart := false }
def PortRefusedSaid : Prop := portRefusedRow.holds Try.pinned (OpenSpec.ofChange portRefusedSpec)

/-- ITS FALSE NEIGHBOUR: 'it returns false'. Refute it at one input. -/
def portRefusedWrong : ChangeSpec := { name := "portRefused", fn := fun _ => fun
  | [d1, d2, d3, d4, d5] => { results := [.lit (.bool false)], args := [d1, d2, d3, d4, d5] }
  | _ => none }
def PortRefusedWrongFalsely : Prop := portRefusedRow.holds Try.pinned (OpenSpec.ofChange portRefusedWrong)

/-- 'dutykeep.PortOwn': WHATEVER THE INPUT: true; the input reads as it did. -/
def portOwnSpec : ChangeSpec := { name := "portOwn", fn := fun _ => fun
  | [d1, d2, d3] => { results := [.lit (.bool true)], args := [d1, d2, d3] }
  | _ => none }
def portOwnRow : OpenClaim := { program := "ythojlodlfgagmaa", sum := "38a172f1afa45afdf3fbaed3851f6e1f76daff6f97adf730b5c7aa157aa51e3f", func := "dutyroster/dutykeep.PortOwn", spec := "portOwn", unfollowed := true, recurses := true, apart := false }
def PortOwnSaid : Prop := portOwnRow.holds Try.pinned (OpenSpec.ofChange portOwnSpec)

/-- ITS FALSE NEIGHBOUR: 'it returns false'. Refute it at one input. -/
def portOwnWrong : ChangeSpec := { name := "portOwn", fn := fun _ => fun
  | [d1, d2, d3] => { results := [.lit (.bool false)], args := [d1, d2, d3] }
  | _ => none }
def PortOwnWrongFalsely : Prop := portOwnRow.holds Try.pinned (OpenSpec.ofChange portOwnWrong)

/- THE SECOND FORM. 'bulk': how many values and letters a reading holds, each counted each time it is reached (what is shared counts as often as it is met; a slice's spare places count too). A statement '..UptoSaid' is the law's where the arguments, and the package variables that the reading takes, are together of bulk at most 1048576: NARROWER than '..Said'. Prove '..Said' where nothing that the law and all that it calls make is longer than what came in: it says more and counts as full. Else prove '..UptoSaid'. A law counts once. -/
mutual
def uptoBulk {H : Type} : DataW H → Nat
  | .lit (.string bytes) => bytes.length + 1
  | .lit _ => 1
  | .nil => 1
  | .ptr d => uptoBulk d + 1
  | .slice elems spare => uptoBulkAll elems + uptoBulkAll spare + 1
  | .agg parts => uptoBulkAll parts + 1
  | .iface _ d => uptoBulk d + 1
  | .map entries => uptoBulkEntries entries + 1
  | .held _ => 1
def uptoBulkAll {H : Type} : List (DataW H) → Nat
  | [] => 0
  | d :: r => uptoBulk d + uptoBulkAll r
def uptoBulkEntries {H : Type} : List (Lit × DataW H) → Nat
  | [] => 0
  | x :: r => uptoBulkEntry x + uptoBulkEntries r
def uptoBulkEntry {H : Type} : Lit × DataW H → Nat
  | (.string bytes, d) => bytes.length + uptoBulk d + 1
  | (_, d) => uptoBulk d + 1
 end
def uptoSmall : (H : Type) → List (DataW H) → Bool := fun _ ds => decide (uptoBulkAll ds ≤ 1048576)
def OpenSpec.upto (s : _root_.Go.ChangeSpec) : _root_.Go.OpenSpec := { _root_.Go.OpenSpec.ofChange s with cond := some uptoSmall }

/-- 'dutykeep.PortOnce', WHERE WHAT IT READS IS OF BULK AT MOST 1048576: true; the input reads as it did. -/
def portOnceUptoRow : OpenClaim := { program := "ythojlodlfgagmaa", sum := "38a172f1afa45afdf3fbaed3851f6e1f76daff6f97adf730b5c7aa157aa51e3f", func := "dutyroster/dutykeep.PortOnce", spec := "portOnce", unfollowed := true, recurses := true, apart := false, narrowed := true }
def PortOnceUptoSaid : Prop := portOnceUptoRow.holds Try.pinned (OpenSpec.upto portOnceSpec)

/-- 'dutykeep.PortLast', WHERE WHAT IT READS IS OF BULK AT MOST 1048576: true; the input reads as it did. -/
def portLastUptoRow : OpenClaim := { program := "ythojlodlfgagmaa", sum := "38a172f1afa45afdf3fbaed3851f6e1f76daff6f97adf730b5c7aa157aa51e3f", func := "dutyroster/dutykeep.PortLast", spec := "portLast", unfollowed := true, recurses := true, apart := false, narrowed := true }
def PortLastUptoSaid : Prop := portLastUptoRow.holds Try.pinned (OpenSpec.upto portLastSpec)

/-- 'dutykeep.PortRefused', WHERE WHAT IT READS IS OF BULK AT MOST 1048576: true; the input reads as it did. -/
def portRefusedUptoRow : OpenClaim := { program := "ythojlodlfgagmaa", sum := "38a172f1afa45afdf3fbaed3851f6e1f76daff6f97adf730b5c7aa157aa51e3f", func := "dutyroster/dutykeep.PortRefused", spec := "portRefused", unfollowed := true, recurses := true, apart := false, narrowed := true }
def PortRefusedUptoSaid : Prop := portRefusedUptoRow.holds Try.pinned (OpenSpec.upto portRefusedSpec)

/-- 'dutykeep.PortOwn', WHERE WHAT IT READS IS OF BULK AT MOST 1048576: true; the input reads as it did. -/
def portOwnUptoRow : OpenClaim := { program := "ythojlodlfgagmaa", sum := "38a172f1afa45afdf3fbaed3851f6e1f76daff6f97adf730b5c7aa157aa51e3f", func := "dutyroster/dutykeep.PortOwn", spec := "portOwn", unfollowed := true, recurses := true, apart := false, narrowed := true }
def PortOwnUptoSaid : Prop := portOwnUptoRow.holds Try.pinned (OpenSpec.upto portOwnSpec)

end Rows
end Go.Proofs.Ythojlodlfgagmaa
