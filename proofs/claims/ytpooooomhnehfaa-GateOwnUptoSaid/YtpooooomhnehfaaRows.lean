/-
  No cell of these rows narrows 'for every input' (looked for: loops, veiled, ifaces, maps, wideKeys, modest, calm, conditions, laid).
  DERIVED. THE GIVEN ROWS OF THIS SEAT. 9 by the template 'for every input the law returns true; each argument reads behind the call as it read before'; 0 by the template 'total and deterministic' (their statements: YtpooooomhnehfaaTotals.lean).
  GIVEN WITH THE SEED: the statements are not yours to turn. If you find one false, say at which input.
  Laid BY PROGRAM, IN A SANDBOX (cutbox-rows.mjs): the forced cells as the released guide's own fill.sh prints them over the translation 16d13eb63a845030… (all of the seat's roots in one cut). By AI agents, Wed Nov 11 2026. No macro, syntax, notation, axiom, sorry.
-/
import Derived.Test.YtpooooomhnehfaaChecked
import GoSem.Claim
import GoSem.ClaimJoined
import GoSem.ClaimMapViews
import Derived.JoinedTies
import Derived.KernelRfl
namespace Go.Proofs.Ytpooooomhnehfaa
/- THE CELL 'sum', in the pinned program and in every row, IS THE sha256 OF THE DUMP (.gsa) THAT YtpooooomhnehfaaProg.lean LOADS. Nothing in Lean hashes anything: it is a label: what it is worth is what the hold of that sum in a sandbox is worth. -/
noncomputable def Try.pinned : Pinned := { name := "ytpooooomhnehfaa", sum := "16d13eb63a845030eb939a36973002210c7ce1b1ed404f61372dafcb2ba0d56b", checked := Try.checked }
namespace Rows
def none {H : Type} : Left H := { results := [], args := [] }

/-- 'dutykeep.FenceOne': WHATEVER THE INPUT: true; the input reads as it did. -/
def fenceOneSpec : ChangeSpec := { name := "fenceOne", fn := fun _ => fun
  | [d1, d2] => { results := [.lit (.bool true)], args := [d1, d2] }
  | _ => none }
def fenceOneRow : OpenClaim := { program := "ytpooooomhnehfaa", sum := "16d13eb63a845030eb939a36973002210c7ce1b1ed404f61372dafcb2ba0d56b", func := "dutyroster/dutykeep.FenceOne", spec := "fenceOne", apart := false }
def FenceOneSaid : Prop := fenceOneRow.holds Try.pinned (OpenSpec.ofChange fenceOneSpec)

/-- ITS FALSE NEIGHBOUR: 'it returns false'. Refute it at one input. -/
def fenceOneWrong : ChangeSpec := { name := "fenceOne", fn := fun _ => fun
  | [d1, d2] => { results := [.lit (.bool false)], args := [d1, d2] }
  | _ => none }
def FenceOneWrongFalsely : Prop := fenceOneRow.holds Try.pinned (OpenSpec.ofChange fenceOneWrong)

/-- 'dutykeep.FenceHeld': WHATEVER THE INPUT: true; the input reads as it did. -/
def fenceHeldSpec : ChangeSpec := { name := "fenceHeld", fn := fun _ => fun
  | [d1, d2, d3, d4, d5] => { results := [.lit (.bool true)], args := [d1, d2, d3, d4, d5] }
  | _ => none }
def fenceHeldRow : OpenClaim := { program := "ytpooooomhnehfaa", sum := "16d13eb63a845030eb939a36973002210c7ce1b1ed404f61372dafcb2ba0d56b", func := "dutyroster/dutykeep.FenceHeld", spec := "fenceHeld", apart := false }
def FenceHeldSaid : Prop := fenceHeldRow.holds Try.pinned (OpenSpec.ofChange fenceHeldSpec)

/-- ITS FALSE NEIGHBOUR: 'it returns false'. Refute it at one input. -/
def fenceHeldWrong : ChangeSpec := { name := "fenceHeld", fn := fun _ => fun
  | [d1, d2, d3, d4, d5] => { results := [.lit (.bool false)], args := [d1, d2, d3, d4, d5] }
  | _ => none }
def FenceHeldWrongFalsely : Prop := fenceHeldRow.holds Try.pinned (OpenSpec.ofChange fenceHeldWrong)

/-- 'dutykeep.FenceApart': WHATEVER THE INPUT: true; the input reads as it did. -/
def fenceApartSpec : ChangeSpec := { name := "fenceApart", fn := fun _ => fun
  | [d1, d2, d3] => { results := [.lit (.bool true)], args := [d1, d2, d3] }
  | _ => none }
def fenceApartRow : OpenClaim := { program := "ytpooooomhnehfaa", sum := "16d13eb63a845030eb939a36973002210c7ce1b1ed404f61372dafcb2ba0d56b", func := "dutyroster/dutykeep.FenceApart", spec := "fenceApart", apart := false }
def FenceApartSaid : Prop := fenceApartRow.holds Try.pinned (OpenSpec.ofChange fenceApartSpec)

/-- ITS FALSE NEIGHBOUR: 'it returns false'. Refute it at one input. -/
def fenceApartWrong : ChangeSpec := { name := "fenceApart", fn := fun _ => fun
  | [d1, d2, d3] => { results := [.lit (.bool false)], args := [d1, d2, d3] }
  | _ => none }
def FenceApartWrongFalsely : Prop := fenceApartRow.holds Try.pinned (OpenSpec.ofChange fenceApartWrong)

/-- 'dutykeep.FenceRises': WHATEVER THE INPUT: true; the input reads as it did. -/
def fenceRisesSpec : ChangeSpec := { name := "fenceRises", fn := fun _ => fun
  | [d1, d2, d3] => { results := [.lit (.bool true)], args := [d1, d2, d3] }
  | _ => none }
def fenceRisesRow : OpenClaim := { program := "ytpooooomhnehfaa", sum := "16d13eb63a845030eb939a36973002210c7ce1b1ed404f61372dafcb2ba0d56b", func := "dutyroster/dutykeep.FenceRises", spec := "fenceRises", apart := false }
def FenceRisesSaid : Prop := fenceRisesRow.holds Try.pinned (OpenSpec.ofChange fenceRisesSpec)

/-- ITS FALSE NEIGHBOUR: 'it returns false'. Refute it at one input. -/
def fenceRisesWrong : ChangeSpec := { name := "fenceRises", fn := fun _ => fun
  | [d1, d2, d3] => { results := [.lit (.bool false)], args := [d1, d2, d3] }
  | _ => none }
def FenceRisesWrongFalsely : Prop := fenceRisesRow.holds Try.pinned (OpenSpec.ofChange fenceRisesWrong)

/-- 'dutykeep.GateOnce': WHATEVER THE INPUT: true; the input reads as it did. -/
def gateOnceSpec : ChangeSpec := { name := "gateOnce", fn := fun _ => fun
  | [d] => { results := [.lit (.bool true)], args := [d] }
  | _ => none }
def gateOnceRow : OpenClaim := { program := "ytpooooomhnehfaa", sum := "16d13eb63a845030eb939a36973002210c7ce1b1ed404f61372dafcb2ba0d56b", func := "dutyroster/dutykeep.GateOnce", spec := "gateOnce", unfollowed := true, recurses := true, apart := false }
def GateOnceSaid : Prop := gateOnceRow.holds Try.pinned (OpenSpec.ofChange gateOnceSpec)

/-- ITS FALSE NEIGHBOUR: 'it returns false'. Refute it at one input. -/
def gateOnceWrong : ChangeSpec := { name := "gateOnce", fn := fun _ => fun
  | [d] => { results := [.lit (.bool false)], args := [d] }
  | _ => none }
def GateOnceWrongFalsely : Prop := gateOnceRow.holds Try.pinned (OpenSpec.ofChange gateOnceWrong)

/-- 'dutykeep.GateStays': WHATEVER THE INPUT: true; the input reads as it did. -/
def gateStaysSpec : ChangeSpec := { name := "gateStays", fn := fun _ => fun
  | [d1, d2] => { results := [.lit (.bool true)], args := [d1, d2] }
  | _ => none }
def gateStaysRow : OpenClaim := { program := "ytpooooomhnehfaa", sum := "16d13eb63a845030eb939a36973002210c7ce1b1ed404f61372dafcb2ba0d56b", func := "dutyroster/dutykeep.GateStays", spec := "gateStays", unfollowed := true, recurses := true, apart := false }
def GateStaysSaid : Prop := gateStaysRow.holds Try.pinned (OpenSpec.ofChange gateStaysSpec)

/-- ITS FALSE NEIGHBOUR: 'it returns false'. Refute it at one input. -/
def gateStaysWrong : ChangeSpec := { name := "gateStays", fn := fun _ => fun
  | [d1, d2] => { results := [.lit (.bool false)], args := [d1, d2] }
  | _ => none }
def GateStaysWrongFalsely : Prop := gateStaysRow.holds Try.pinned (OpenSpec.ofChange gateStaysWrong)

/-- 'dutykeep.GateAgain': WHATEVER THE INPUT: true; the input reads as it did. -/
def gateAgainSpec : ChangeSpec := { name := "gateAgain", fn := fun _ => fun
  | [d1, d2, d3] => { results := [.lit (.bool true)], args := [d1, d2, d3] }
  | _ => none }
def gateAgainRow : OpenClaim := { program := "ytpooooomhnehfaa", sum := "16d13eb63a845030eb939a36973002210c7ce1b1ed404f61372dafcb2ba0d56b", func := "dutyroster/dutykeep.GateAgain", spec := "gateAgain", unfollowed := true, recurses := true, apart := false }
def GateAgainSaid : Prop := gateAgainRow.holds Try.pinned (OpenSpec.ofChange gateAgainSpec)

/-- ITS FALSE NEIGHBOUR: 'it returns false'. Refute it at one input. -/
def gateAgainWrong : ChangeSpec := { name := "gateAgain", fn := fun _ => fun
  | [d1, d2, d3] => { results := [.lit (.bool false)], args := [d1, d2, d3] }
  | _ => none }
def GateAgainWrongFalsely : Prop := gateAgainRow.holds Try.pinned (OpenSpec.ofChange gateAgainWrong)

/-- 'dutykeep.GateOld': WHATEVER THE INPUT: true; the input reads as it did. -/
def gateOldSpec : ChangeSpec := { name := "gateOld", fn := fun _ => fun
  | [d1, d2, d3, d4] => { results := [.lit (.bool true)], args := [d1, d2, d3, d4] }
  | _ => none }
def gateOldRow : OpenClaim := { program := "ytpooooomhnehfaa", sum := "16d13eb63a845030eb939a36973002210c7ce1b1ed404f61372dafcb2ba0d56b", func := "dutyroster/dutykeep.GateOld", spec := "gateOld", unfollowed := true, recurses := true, apart := false }
def GateOldSaid : Prop := gateOldRow.holds Try.pinned (OpenSpec.ofChange gateOldSpec)

/-- ITS FALSE NEIGHBOUR: 'it returns false'. Refute it at one input. -/
def gateOldWrong : ChangeSpec := { name := "gateOld", fn := fun _ => fun
  | [d1, d2, d3, d4] => { results := [.lit (.bool false)], args := [d1, d2, d3, d4] }
  | _ => none }
def GateOldWrongFalsely : Prop := gateOldRow.holds Try.pinned (OpenSpec.ofChange gateOldWrong)

/-- 'dutykeep.GateOwn': WHATEVER THE INPUT: true; the input reads as it did. -/
def gateOwnSpec : ChangeSpec := { name := "gateOwn", fn := fun _ => fun
  | [d1, d2] => { results := [.lit (.bool true)], args := [d1, d2] }
  | _ => none }
def gateOwnRow : OpenClaim := { program := "ytpooooomhnehfaa", sum := "16d13eb63a845030eb939a36973002210c7ce1b1ed404f61372dafcb2ba0d56b", func := "dutyroster/dutykeep.GateOwn", spec := "gateOwn", unfollowed := true, recurses := true, apart := false }
def GateOwnSaid : Prop := gateOwnRow.holds Try.pinned (OpenSpec.ofChange gateOwnSpec)

/-- ITS FALSE NEIGHBOUR: 'it returns false'. Refute it at one input. -/
def gateOwnWrong : ChangeSpec := { name := "gateOwn", fn := fun _ => fun
  | [d1, d2] => { results := [.lit (.bool false)], args := [d1, d2] }
  | _ => none }
def GateOwnWrongFalsely : Prop := gateOwnRow.holds Try.pinned (OpenSpec.ofChange gateOwnWrong)

/- THE SECOND FORM. 'bulk': how many values and letters a reading holds, each counted each time it is reached (what is shared counts as often as it is met; a slice's spare places count too). A statement '..UptoSaid' is the law's where the arguments, and the package variables that the reading takes, are together of bulk at most 1048576: NARROWER than '..Said'. Prove '..Said' where nothing that the law and all that it calls make is longer than what came in: it says more and counts as full. Else prove '..UptoSaid'. A law counts once. -/
mutual
def uptoBulk {H : Type} : DataW H → Nat
  | .lit (.string bytes) => bytes.length + 1
  | .lit _ => 1
  | .nil => 1
  | .ptr d => uptoBulk d + 1
  | .slice elems spare => uptoBulkAll elems + uptoBulkAll spare + 1
  | .agg parts => uptoBulkAll parts + 1
  | .iface _ d => uptoBulk d + 1
  | .map entries => uptoBulkEntries entries + 1
  | .held _ => 1
def uptoBulkAll {H : Type} : List (DataW H) → Nat
  | [] => 0
  | d :: r => uptoBulk d + uptoBulkAll r
def uptoBulkEntries {H : Type} : List (Lit × DataW H) → Nat
  | [] => 0
  | x :: r => uptoBulkEntry x + uptoBulkEntries r
def uptoBulkEntry {H : Type} : Lit × DataW H → Nat
  | (.string bytes, d) => bytes.length + uptoBulk d + 1
  | (_, d) => uptoBulk d + 1
 end
def uptoSmall : (H : Type) → List (DataW H) → Bool := fun _ ds => decide (uptoBulkAll ds ≤ 1048576)
def OpenSpec.upto (s : _root_.Go.ChangeSpec) : _root_.Go.OpenSpec := { _root_.Go.OpenSpec.ofChange s with cond := some uptoSmall }

/-- 'dutykeep.FenceOne', WHERE WHAT IT READS IS OF BULK AT MOST 1048576: true; the input reads as it did. -/
def fenceOneUptoRow : OpenClaim := { program := "ytpooooomhnehfaa", sum := "16d13eb63a845030eb939a36973002210c7ce1b1ed404f61372dafcb2ba0d56b", func := "dutyroster/dutykeep.FenceOne", spec := "fenceOne", apart := false, narrowed := true }
def FenceOneUptoSaid : Prop := fenceOneUptoRow.holds Try.pinned (OpenSpec.upto fenceOneSpec)

/-- 'dutykeep.FenceHeld', WHERE WHAT IT READS IS OF BULK AT MOST 1048576: true; the input reads as it did. -/
def fenceHeldUptoRow : OpenClaim := { program := "ytpooooomhnehfaa", sum := "16d13eb63a845030eb939a36973002210c7ce1b1ed404f61372dafcb2ba0d56b", func := "dutyroster/dutykeep.FenceHeld", spec := "fenceHeld", apart := false, narrowed := true }
def FenceHeldUptoSaid : Prop := fenceHeldUptoRow.holds Try.pinned (OpenSpec.upto fenceHeldSpec)

/-- 'dutykeep.FenceApart', WHERE WHAT IT READS IS OF BULK AT MOST 1048576: true; the input reads as it did. -/
def fenceApartUptoRow : OpenClaim := { program := "ytpooooomhnehfaa", sum := "16d13eb63a845030eb939a36973002210c7ce1b1ed404f61372dafcb2ba0d56b", func := "dutyroster/dutykeep.FenceApart", spec := "fenceApart", apart := false, narrowed := true }
def FenceApartUptoSaid : Prop := fenceApartUptoRow.holds Try.pinned (OpenSpec.upto fenceApartSpec)

/-- 'dutykeep.FenceRises', WHERE WHAT IT READS IS OF BULK AT MOST 1048576: true; the input reads as it did. -/
def fenceRisesUptoRow : OpenClaim := { program := "ytpooooomhnehfaa", sum := "16d13eb63a845030eb939a36973002210c7ce1b1ed404f61372dafcb2ba0d56b", func := "dutyroster/dutykeep.FenceRises", spec := "fenceRises", apart := false, narrowed := true }
def FenceRisesUptoSaid : Prop := fenceRisesUptoRow.holds Try.pinned (OpenSpec.upto fenceRisesSpec)

/-- 'dutykeep.GateOnce', WHERE WHAT IT READS IS OF BULK AT MOST 1048576: true; the input reads as it did. -/
def gateOnceUptoRow : OpenClaim := { program := "ytpooooomhnehfaa", sum := "16d13eb63a845030eb939a36973002210c7ce1b1ed404f61372dafcb2ba0d56b", func := "dutyroster/dutykeep.GateOnce", spec := "gateOnce", unfollowed := true, recurses := true, apart := false, narrowed := true }
def GateOnceUptoSaid : Prop := gateOnceUptoRow.holds Try.pinned (OpenSpec.upto gateOnceSpec)

/-- 'dutykeep.GateStays', WHERE WHAT IT READS IS OF BULK AT MOST 1048576: true; the input reads as it did. -/
def gateStaysUptoRow : OpenClaim := { program := "ytpooooomhnehfaa", sum := "16d13eb63a845030eb939a36973002210c7ce1b1ed404f61372dafcb2ba0d56b", func := "dutyroster/dutykeep.GateStays", spec := "gateStays", unfollowed := true, recurses := true, apart := false, narrowed := true }
def GateStaysUptoSaid : Prop := gateStaysUptoRow.holds Try.pinned (OpenSpec.upto gateStaysSpec)

/-- 'dutykeep.GateAgain', WHERE WHAT IT READS IS OF BULK AT MOST 1048576: true; the input reads as it did. -/
def gateAgainUptoRow : OpenClaim := { program := "ytpooooomhnehfaa", sum := "16d13eb63a845030eb939a36973002210c7ce1b1ed404f61372dafcb2ba0d56b", func := "dutyroster/dutykeep.GateAgain", spec := "gateAgain", unfollowed := true, recurses := true, apart := false, narrowed := true }
def GateAgainUptoSaid : Prop := gateAgainUptoRow.holds Try.pinned (OpenSpec.upto gateAgainSpec)

/-- 'dutykeep.GateOld', WHERE WHAT IT READS IS OF BULK AT MOST 1048576: true; the input reads as it did. -/
def gateOldUptoRow : OpenClaim := { program := "ytpooooomhnehfaa", sum := "16d13eb63a845030eb939a36973002210c7ce1b1ed404f61372dafcb2ba0d56b", func := "dutyroster/dutykeep.GateOld", spec := "gateOld", unfollowed := true, recurses := true, apart := false, narrowed := true }
def GateOldUptoSaid : Prop := gateOldUptoRow.holds Try.pinned (OpenSpec.upto gateOldSpec)

/-- 'dutykeep.GateOwn', WHERE WHAT IT READS IS OF BULK AT MOST 1048576: true; the input reads as it did. -/
def gateOwnUptoRow : OpenClaim := { program := "ytpooooomhnehfaa", sum := "16d13eb63a845030eb939a36973002210c7ce1b1ed404f61372dafcb2ba0d56b", func := "dutyroster/dutykeep.GateOwn", spec := "gateOwn", unfollowed := true, recurses := true, apart := false, narrowed := true }
def GateOwnUptoSaid : Prop := gateOwnUptoRow.holds Try.pinned (OpenSpec.upto gateOwnSpec)

end Rows
end Go.Proofs.Ytpooooomhnehfaa
