/-
  No cell of these rows narrows 'for every input' (looked for: loops, veiled, ifaces, maps, wideKeys, modest, calm, conditions, laid).
  DERIVED. THE GIVEN ROWS OF THIS SEAT. 4 by the template 'for every input the law returns true; each argument reads behind the call as it read before'; 0 by the template 'total and deterministic' (their statements: YtidingjknijjmaaTotals.lean).
  GIVEN WITH THE SEED: the statements are not yours to turn. If you find one false, say at which input.
  Laid BY PROGRAM, IN A SANDBOX (cutbox-rows.mjs): the forced cells as the released guide's own fill.sh prints them over the translation c2db61cb20441e1a… (all of the seat's roots in one cut). By AI agents, Wed Nov 11 2026. No macro, syntax, notation, axiom, sorry.
-/
import Derived.Test.YtidingjknijjmaaChecked
import GoSem.Claim
import GoSem.ClaimJoined
import GoSem.ClaimMapViews
import Derived.JoinedTies
import Derived.KernelRfl
namespace Go.Proofs.Ytidingjknijjmaa
/- THE CELL 'sum', in the pinned program and in every row, IS THE sha256 OF THE DUMP (.gsa) THAT YtidingjknijjmaaProg.lean LOADS. Nothing in Lean hashes anything: it is a label: what it is worth is what the hold of that sum in a sandbox is worth. -/
noncomputable def Try.pinned : Pinned := { name := "ytidingjknijjmaa", sum := "c2db61cb20441e1a1b978e246851eda44b1935f7e167419a3c611c08b17fb4db", checked := Try.checked }
namespace Rows
def none {H : Type} : Left H := { results := [], args := [] }

/-- 'dutykeep.BeatSoon': WHATEVER THE INPUT: true; the input reads as it did. -/
def beatSoonSpec : ChangeSpec := { name := "beatSoon", fn := fun _ => fun
  | [d1, d2, d3, d4, d5] => { results := [.lit (.bool true)], args := [d1, d2, d3, d4, d5] }
  | _ => none }
def beatSoonRow : OpenClaim := { program := "ytidingjknijjmaa", sum := "c2db61cb20441e1a1b978e246851eda44b1935f7e167419a3c611c08b17fb4db", func := "dutyroster/dutykeep.BeatSoon", spec := "beatSoon", recurses := true, apart := false }
def BeatSoonSaid : Prop := beatSoonRow.holds Try.pinned (OpenSpec.ofChange beatSoonSpec)

/-- ITS FALSE NEIGHBOUR: 'it returns false'. Refute it at one input. -/
def beatSoonWrong : ChangeSpec := { name := "beatSoon", fn := fun _ => fun
  | [d1, d2, d3, d4, d5] => { results := [.lit (.bool false)], args := [d1, d2, d3, d4, d5] }
  | _ => none }
def BeatSoonWrongFalsely : Prop := beatSoonRow.holds Try.pinned (OpenSpec.ofChange beatSoonWrong)

/-- 'dutykeep.BeatNever': WHATEVER THE INPUT: true; the input reads as it did. -/
def beatNeverSpec : ChangeSpec := { name := "beatNever", fn := fun _ => fun
  | [d1, d2, d3, d4] => { results := [.lit (.bool true)], args := [d1, d2, d3, d4] }
  | _ => none }
def beatNeverRow : OpenClaim := { program := "ytidingjknijjmaa", sum := "c2db61cb20441e1a1b978e246851eda44b1935f7e167419a3c611c08b17fb4db", func := "dutyroster/dutykeep.BeatNever", spec := "beatNever", unfollowed := true, recurses := true, apart := false }
def BeatNeverSaid : Prop := beatNeverRow.holds Try.pinned (OpenSpec.ofChange beatNeverSpec)

/-- ITS FALSE NEIGHBOUR: 'it returns false'. Refute it at one input. -/
def beatNeverWrong : ChangeSpec := { name := "beatNever", fn := fun _ => fun
  | [d1, d2, d3, d4] => { results := [.lit (.bool false)], args := [d1, d2, d3, d4] }
  | _ => none }
def BeatNeverWrongFalsely : Prop := beatNeverRow.holds Try.pinned (OpenSpec.ofChange beatNeverWrong)

/-- 'dutykeep.BeatMore': WHATEVER THE INPUT: true; the input reads as it did. -/
def beatMoreSpec : ChangeSpec := { name := "beatMore", fn := fun _ => fun
  | [d1, d2, d3, d4, d5] => { results := [.lit (.bool true)], args := [d1, d2, d3, d4, d5] }
  | _ => none }
def beatMoreRow : OpenClaim := { program := "ytidingjknijjmaa", sum := "c2db61cb20441e1a1b978e246851eda44b1935f7e167419a3c611c08b17fb4db", func := "dutyroster/dutykeep.BeatMore", spec := "beatMore", unfollowed := true, recurses := true, apart := false }
def BeatMoreSaid : Prop := beatMoreRow.holds Try.pinned (OpenSpec.ofChange beatMoreSpec)

/-- ITS FALSE NEIGHBOUR: 'it returns false'. Refute it at one input. -/
def beatMoreWrong : ChangeSpec := { name := "beatMore", fn := fun _ => fun
  | [d1, d2, d3, d4, d5] => { results := [.lit (.bool false)], args := [d1, d2, d3, d4, d5] }
  | _ => none }
def BeatMoreWrongFalsely : Prop := beatMoreRow.holds Try.pinned (OpenSpec.ofChange beatMoreWrong)

/-- 'dutykeep.BeatEach': WHATEVER THE INPUT: true; the input reads as it did. -/
def beatEachSpec : ChangeSpec := { name := "beatEach", fn := fun _ => fun
  | [d1, d2, d3, d4] => { results := [.lit (.bool true)], args := [d1, d2, d3, d4] }
  | _ => none }
def beatEachRow : OpenClaim := { program := "ytidingjknijjmaa", sum := "c2db61cb20441e1a1b978e246851eda44b1935f7e167419a3c611c08b17fb4db", func := "dutyroster/dutykeep.BeatEach", spec := "beatEach", unfollowed := true, recurses := true, apart := false }
def BeatEachSaid : Prop := beatEachRow.holds Try.pinned (OpenSpec.ofChange beatEachSpec)

/-- ITS FALSE NEIGHBOUR: 'it returns false'. Refute it at one input. -/
def beatEachWrong : ChangeSpec := { name := "beatEach", fn := fun _ => fun
  | [d1, d2, d3, d4] => { results := [.lit (.bool false)], args := [d1, d2, d3, d4] }
  | _ => none }
def BeatEachWrongFalsely : Prop := beatEachRow.holds Try.pinned (OpenSpec.ofChange beatEachWrong)

/- THE SECOND FORM. 'bulk': how many values and letters a reading holds, each counted each time it is reached (what is shared counts as often as it is met; a slice's spare places count too). A statement '..UptoSaid' is the law's where the arguments, and the package variables that the reading takes, are together of bulk at most 1048576: NARROWER than '..Said'. Prove '..Said' where nothing that the law and all that it calls make is longer than what came in: it says more and counts as full. Else prove '..UptoSaid'. A law counts once. -/
mutual
def uptoBulk {H : Type} : DataW H → Nat
  | .lit (.string bytes) => bytes.length + 1
  | .lit _ => 1
  | .nil => 1
  | .ptr d => uptoBulk d + 1
  | .slice elems spare => uptoBulkAll elems + uptoBulkAll spare + 1
  | .agg parts => uptoBulkAll parts + 1
  | .iface _ d => uptoBulk d + 1
  | .map entries => uptoBulkEntries entries + 1
  | .held _ => 1
def uptoBulkAll {H : Type} : List (DataW H) → Nat
  | [] => 0
  | d :: r => uptoBulk d + uptoBulkAll r
def uptoBulkEntries {H : Type} : List (Lit × DataW H) → Nat
  | [] => 0
  | x :: r => uptoBulkEntry x + uptoBulkEntries r
def uptoBulkEntry {H : Type} : Lit × DataW H → Nat
  | (.string bytes, d) => bytes.length + uptoBulk d + 1
  | (_, d) => uptoBulk d + 1
 end
def uptoSmall : (H : Type) → List (DataW H) → Bool := fun _ ds => decide (uptoBulkAll ds ≤ 1048576)
def OpenSpec.upto (s : _root_.Go.ChangeSpec) : _root_.Go.OpenSpec := { _root_.Go.OpenSpec.ofChange s with cond := some uptoSmall }

/-- 'dutykeep.BeatSoon', WHERE WHAT IT READS IS OF BULK AT MOST 1048576: true; the input reads as it did. -/
def beatSoonUptoRow : OpenClaim := { program := "ytidingjknijjmaa", sum := "c2db61cb20441e1a1b978e246851eda44b1935f7e167419a3c611c08b17fb4db", func := "dutyroster/dutykeep.BeatSoon", spec := "beatSoon", recurses := true, apart := false, narrowed := true }
def BeatSoonUptoSaid : Prop := beatSoonUptoRow.holds Try.pinned (OpenSpec.upto beatSoonSpec)

/-- 'dutykeep.BeatNever', WHERE WHAT IT READS IS OF BULK AT MOST 1048576: true; the input reads as it did. -/
def beatNeverUptoRow : OpenClaim := { program := "ytidingjknijjmaa", sum := "c2db61cb20441e1a1b978e246851eda44b1935f7e167419a3c611c08b17fb4db", func := "dutyroster/dutykeep.BeatNever", spec := "beatNever", unfollowed := true, recurses := true, apart := false, narrowed := true }
def BeatNeverUptoSaid : Prop := beatNeverUptoRow.holds Try.pinned (OpenSpec.upto beatNeverSpec)

/-- 'dutykeep.BeatMore', WHERE WHAT IT READS IS OF BULK AT MOST 1048576: true; the input reads as it did. -/
def beatMoreUptoRow : OpenClaim := { program := "ytidingjknijjmaa", sum := "c2db61cb20441e1a1b978e246851eda44b1935f7e167419a3c611c08b17fb4db", func := "dutyroster/dutykeep.BeatMore", spec := "beatMore", unfollowed := true, recurses := true, apart := false, narrowed := true }
def BeatMoreUptoSaid : Prop := beatMoreUptoRow.holds Try.pinned (OpenSpec.upto beatMoreSpec)

/-- 'dutykeep.BeatEach', WHERE WHAT IT READS IS OF BULK AT MOST 1048576: true; the input reads as it did. -/
def beatEachUptoRow : OpenClaim := { program := "ytidingjknijjmaa", sum := "c2db61cb20441e1a1b978e246851eda44b1935f7e167419a3c611c08b17fb4db", func := "dutyroster/dutykeep.BeatEach", spec := "beatEach", unfollowed := true, recurses := true, apart := false, narrowed := true }
def BeatEachUptoSaid : Prop := beatEachUptoRow.holds Try.pinned (OpenSpec.upto beatEachSpec)

end Rows
end Go.Proofs.Ytidingjknijjmaa
