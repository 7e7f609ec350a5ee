/-
  No cell of these rows narrows 'for every input' (looked for: loops, veiled, ifaces, maps, wideKeys, modest, calm, conditions, laid).
  DERIVED. THE GIVEN ROWS OF THIS SEAT. 5 by the template 'for every input the law returns true; each argument reads behind the call as it read before'; 0 by the template 'total and deterministic' (their statements: YthbdlihmafcioaaTotals.lean).
  GIVEN WITH THE SEED: the statements are not yours to turn. If you find one false, say at which input.
  Laid BY PROGRAM, IN A SANDBOX (cutbox-rows.mjs): the forced cells as the released guide's own fill.sh prints them over the translation b720563ffc0a0403… (all of the seat's roots in one cut). By AI agents, Wed Nov 11 2026. No macro, syntax, notation, axiom, sorry.
-/
import Derived.Test.YthbdlihmafcioaaChecked
import GoSem.Claim
import GoSem.ClaimJoined
import GoSem.ClaimMapViews
import Derived.JoinedTies
import Derived.KernelRfl
namespace Go.Proofs.Ythbdlihmafcioaa
/- THE CELL 'sum', in the pinned program and in every row, IS THE sha256 OF THE DUMP (.gsa) THAT YthbdlihmafcioaaProg.lean LOADS. Nothing in Lean hashes anything: it is a label: what it is worth is what the hold of that sum in a sandbox is worth. -/
noncomputable def Try.pinned : Pinned := { name := "ythbdlihmafcioaa", sum := "b720563ffc0a040328162b336774b7edf502a2e4418c91ed00b6d11bfc987780", checked := Try.checked }
namespace Rows
def none {H : Type} : Left H := { results := [], args := [] }

/-- 'dutykeep.LockNever': WHATEVER THE INPUT: true; the input reads as it did. -/
def lockNeverSpec : ChangeSpec := { name := "lockNever", fn := fun _ => fun
  | [d1, d2] => { results := [.lit (.bool true)], args := [d1, d2] }
  | _ => none }
def lockNeverRow : OpenClaim := { program := "ythbdlihmafcioaa", sum := "b720563ffc0a040328162b336774b7edf502a2e4418c91ed00b6d11bfc987780", func := "dutyroster/dutykeep.LockNever", spec := "lockNever", unfollowed := true, recurses := true, apart := false }
def LockNeverSaid : Prop := lockNeverRow.holds Try.pinned (OpenSpec.ofChange lockNeverSpec)

/-- ITS FALSE NEIGHBOUR: 'it returns false'. Refute it at one input. -/
def lockNeverWrong : ChangeSpec := { name := "lockNever", fn := fun _ => fun
  | [d1, d2] => { results := [.lit (.bool false)], args := [d1, d2] }
  | _ => none }
def LockNeverWrongFalsely : Prop := lockNeverRow.holds Try.pinned (OpenSpec.ofChange lockNeverWrong)

/-- 'dutykeep.LockEnds': WHATEVER THE INPUT: true; the input reads as it did. -/
def lockEndsSpec : ChangeSpec := { name := "lockEnds", fn := fun _ => fun
  | [d1, d2] => { results := [.lit (.bool true)], args := [d1, d2] }
  | _ => none }
def lockEndsRow : OpenClaim := { program := "ythbdlihmafcioaa", sum := "b720563ffc0a040328162b336774b7edf502a2e4418c91ed00b6d11bfc987780", func := "dutyroster/dutykeep.LockEnds", spec := "lockEnds", unfollowed := true, recurses := true, apart := false }
def LockEndsSaid : Prop := lockEndsRow.holds Try.pinned (OpenSpec.ofChange lockEndsSpec)

/-- ITS FALSE NEIGHBOUR: 'it returns false'. Refute it at one input. -/
def lockEndsWrong : ChangeSpec := { name := "lockEnds", fn := fun _ => fun
  | [d1, d2] => { results := [.lit (.bool false)], args := [d1, d2] }
  | _ => none }
def LockEndsWrongFalsely : Prop := lockEndsRow.holds Try.pinned (OpenSpec.ofChange lockEndsWrong)

/-- 'dutykeep.LockOnce': WHATEVER THE INPUT: true; the input reads as it did. -/
def lockOnceSpec : ChangeSpec := { name := "lockOnce", fn := fun _ => fun
  | [d1, d2, d3] => { results := [.lit (.bool true)], args := [d1, d2, d3] }
  | _ => none }
def lockOnceRow : OpenClaim := { program := "ythbdlihmafcioaa", sum := "b720563ffc0a040328162b336774b7edf502a2e4418c91ed00b6d11bfc987780", func := "dutyroster/dutykeep.LockOnce", spec := "lockOnce", unfollowed := true, recurses := true, apart := false }
def LockOnceSaid : Prop := lockOnceRow.holds Try.pinned (OpenSpec.ofChange lockOnceSpec)

/-- ITS FALSE NEIGHBOUR: 'it returns false'. Refute it at one input. -/
def lockOnceWrong : ChangeSpec := { name := "lockOnce", fn := fun _ => fun
  | [d1, d2, d3] => { results := [.lit (.bool false)], args := [d1, d2, d3] }
  | _ => none }
def LockOnceWrongFalsely : Prop := lockOnceRow.holds Try.pinned (OpenSpec.ofChange lockOnceWrong)

/-- 'dutykeep.LockFirst': WHATEVER THE INPUT: true; the input reads as it did. -/
def lockFirstSpec : ChangeSpec := { name := "lockFirst", fn := fun _ => fun
  | [d1, d2] => { results := [.lit (.bool true)], args := [d1, d2] }
  | _ => none }
def lockFirstRow : OpenClaim := { program := "ythbdlihmafcioaa", sum := "b720563ffc0a040328162b336774b7edf502a2e4418c91ed00b6d11bfc987780", func := "dutyroster/dutykeep.LockFirst", spec := "lockFirst", unfollowed := true, recurses := true, apart := false }
def LockFirstSaid : Prop := lockFirstRow.holds Try.pinned (OpenSpec.ofChange lockFirstSpec)

/-- ITS FALSE NEIGHBOUR: 'it returns false'. Refute it at one input. -/
def lockFirstWrong : ChangeSpec := { name := "lockFirst", fn := fun _ => fun
  | [d1, d2] => { results := [.lit (.bool false)], args := [d1, d2] }
  | _ => none }
def LockFirstWrongFalsely : Prop := lockFirstRow.holds Try.pinned (OpenSpec.ofChange lockFirstWrong)

/-- 'dutykeep.LockOn': WHATEVER THE INPUT: true; the input reads as it did. -/
def lockOnSpec : ChangeSpec := { name := "lockOn", fn := fun _ => fun
  | [d1, d2, d3] => { results := [.lit (.bool true)], args := [d1, d2, d3] }
  | _ => none }
def lockOnRow : OpenClaim := { program := "ythbdlihmafcioaa", sum := "b720563ffc0a040328162b336774b7edf502a2e4418c91ed00b6d11bfc987780", func := "dutyroster/dutykeep.LockOn", spec := "lockOn", unfollowed := true, recurses := true, apart := false }
def LockOnSaid : Prop := lockOnRow.holds Try.pinned (OpenSpec.ofChange lockOnSpec)

/-- ITS FALSE NEIGHBOUR: 'it returns false'. Refute it at one input. -/
def lockOnWrong : ChangeSpec := { name := "lockOn", fn := fun _ => fun
  | [d1, d2, d3] => { results := [.lit (.bool false)], args := [d1, d2, d3] }
  | _ => none }
def LockOnWrongFalsely : Prop := lockOnRow.holds Try.pinned (OpenSpec.ofChange lockOnWrong)

/- THE SECOND FORM. 'bulk': how many values and letters a reading holds, each counted each time it is reached (what is shared counts as often as it is met; a slice's spare places count too). A statement '..UptoSaid' is the law's where the arguments, and the package variables that the reading takes, are together of bulk at most 1048576: NARROWER than '..Said'. Prove '..Said' where nothing that the law and all that it calls make is longer than what came in: it says more and counts as full. Else prove '..UptoSaid'. A law counts once. -/
mutual
def uptoBulk {H : Type} : DataW H → Nat
  | .lit (.string bytes) => bytes.length + 1
  | .lit _ => 1
  | .nil => 1
  | .ptr d => uptoBulk d + 1
  | .slice elems spare => uptoBulkAll elems + uptoBulkAll spare + 1
  | .agg parts => uptoBulkAll parts + 1
  | .iface _ d => uptoBulk d + 1
  | .map entries => uptoBulkEntries entries + 1
  | .held _ => 1
def uptoBulkAll {H : Type} : List (DataW H) → Nat
  | [] => 0
  | d :: r => uptoBulk d + uptoBulkAll r
def uptoBulkEntries {H : Type} : List (Lit × DataW H) → Nat
  | [] => 0
  | x :: r => uptoBulkEntry x + uptoBulkEntries r
def uptoBulkEntry {H : Type} : Lit × DataW H → Nat
  | (.string bytes, d) => bytes.length + uptoBulk d + 1
  | (_, d) => uptoBulk d + 1
 end
def uptoSmall : (H : Type) → List (DataW H) → Bool := fun _ ds => decide (uptoBulkAll ds ≤ 1048576)
def OpenSpec.upto (s : _root_.Go.ChangeSpec) : _root_.Go.OpenSpec := { _root_.Go.OpenSpec.ofChange s with cond := some uptoSmall }

/-- 'dutykeep.LockNever', WHERE WHAT IT READS IS OF BULK AT MOST 1048576: true; the input reads as it did. -/
def lockNeverUptoRow : OpenClaim := { program := "ythbdlihmafcioaa", sum := "b720563ffc0a040328162b336774b7edf502a2e4418c91ed00b6d11bfc987780", func := "dutyroster/dutykeep.LockNever", spec := "lockNever", unfollowed := true, recurses := true, apart := false, narrowed := true }
def LockNeverUptoSaid : Prop := lockNeverUptoRow.holds Try.pinned (OpenSpec.upto lockNeverSpec)

/-- 'dutykeep.LockEnds', WHERE WHAT IT READS IS OF BULK AT MOST 1048576: true; the input reads as it did. -/
def lockEndsUptoRow : OpenClaim := { program := "ythbdlihmafcioaa", sum := "b720563ffc0a040328162b336774b7edf502a2e4418c91ed00b6d11bfc987780", func := "dutyroster/dutykeep.LockEnds", spec := "lockEnds", unfollowed := true, recurses := true, apart := false, narrowed := true }
def LockEndsUptoSaid : Prop := lockEndsUptoRow.holds Try.pinned (OpenSpec.upto lockEndsSpec)

/-- 'dutykeep.LockOnce', WHERE WHAT IT READS IS OF BULK AT MOST 1048576: true; the input reads as it did. -/
def lockOnceUptoRow : OpenClaim := { program := "ythbdlihmafcioaa", sum := "b720563ffc0a040328162b336774b7edf502a2e4418c91ed00b6d11bfc987780", func := "dutyroster/dutykeep.LockOnce", spec := "lockOnce", unfollowed := true, recurses := true, apart := false, narrowed := true }
def LockOnceUptoSaid : Prop := lockOnceUptoRow.holds Try.pinned (OpenSpec.upto lockOnceSpec)

/-- 'dutykeep.LockFirst', WHERE WHAT IT READS IS OF BULK AT MOST 1048576: true; the input reads as it did. -/
def lockFirstUptoRow : OpenClaim := { program := "ythbdlihmafcioaa", sum := "b720563ffc0a040328162b336774b7edf502a2e4418c91ed00b6d11bfc987780", func := "dutyroster/dutykeep.LockFirst", spec := "lockFirst", unfollowed := true, recurses := true, apart := false, narrowed := true }
def LockFirstUptoSaid : Prop := lockFirstUptoRow.holds Try.pinned (OpenSpec.upto lockFirstSpec)

/-- 'dutykeep.LockOn', WHERE WHAT IT READS IS OF BULK AT MOST 1048576: true; the input reads as it did. -/
def lockOnUptoRow : OpenClaim := { program := "ythbdlihmafcioaa", sum := "b720563ffc0a040328162b336774b7edf502a2e4418c91ed00b6d11bfc987780", func := "dutyroster/dutykeep.LockOn", spec := "lockOn", unfollowed := true, recurses := true, apart := false, narrowed := true }
def LockOnUptoSaid : Prop := lockOnUptoRow.holds Try.pinned (OpenSpec.upto lockOnSpec)

end Rows
end Go.Proofs.Ythbdlihmafcioaa
