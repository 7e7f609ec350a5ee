/-
  No cell of these rows narrows 'for every input' (looked for: loops, veiled, ifaces, maps, wideKeys, modest, calm, conditions, laid).
  DERIVED. THE GIVEN ROWS OF THIS SEAT. 9 by the template 'for every input the law returns true; each argument reads behind the call as it read before'; 0 by the template 'total and deterministic' (their statements: YtjgobknjnjdphaaTotals.lean).
  GIVEN WITH THE SEED: the statements are not yours to turn. If you find one false, say at which input.
  Laid BY PROGRAM, IN A SANDBOX (cutbox-rows.mjs): the forced cells as the released guide's own fill.sh prints them over the translation 6e942a3659c35a70… (all of the seat's roots in one cut). By AI agents, Wed Nov 11 2026. No macro, syntax, notation, axiom, sorry.
-/
import Derived.Test.YtjgobknjnjdphaaChecked
import GoSem.Claim
import GoSem.ClaimJoined
import GoSem.ClaimMapViews
import Derived.JoinedTies
import Derived.KernelRfl
namespace Go.Proofs.Ytjgobknjnjdphaa
/- THE CELL 'sum', in the pinned program and in every row, IS THE sha256 OF THE DUMP (.gsa) THAT YtjgobknjnjdphaaProg.lean LOADS. Nothing in Lean hashes anything: it is a label: what it is worth is what the hold of that sum in a sandbox is worth. -/
noncomputable def Try.pinned : Pinned := { name := "ytjgobknjnjdphaa", sum := "6e942a3659c35a70bbfd1ce86faf36e858daedb4df106634964b39565b64c10d", checked := Try.checked }
namespace Rows
def none {H : Type} : Left H := { results := [], args := [] }

/-- 'dutykeep.WireBack': WHATEVER THE INPUT: true; the input reads as it did. -/
def wireBackSpec : ChangeSpec := { name := "wireBack", fn := fun _ => fun
  | [d1, d2, d3] => { results := [.lit (.bool true)], args := [d1, d2, d3] }
  | _ => none }
def wireBackRow : OpenClaim := { program := "ytjgobknjnjdphaa", sum := "6e942a3659c35a70bbfd1ce86faf36e858daedb4df106634964b39565b64c10d", func := "dutyroster/dutykeep.WireBack", spec := "wireBack", apart := false }
def WireBackSaid : Prop := wireBackRow.holds Try.pinned (OpenSpec.ofChange wireBackSpec)

/-- ITS FALSE NEIGHBOUR: 'it returns false'. Refute it at one input. -/
def wireBackWrong : ChangeSpec := { name := "wireBack", fn := fun _ => fun
  | [d1, d2, d3] => { results := [.lit (.bool false)], args := [d1, d2, d3] }
  | _ => none }
def WireBackWrongFalsely : Prop := wireBackRow.holds Try.pinned (OpenSpec.ofChange wireBackWrong)

/-- 'dutykeep.WireBurst': WHATEVER THE INPUT: true; the input reads as it did. -/
def wireBurstSpec : ChangeSpec := { name := "wireBurst", fn := fun _ => fun
  | [d1, d2, d3] => { results := [.lit (.bool true)], args := [d1, d2, d3] }
  | _ => none }
def wireBurstRow : OpenClaim := { program := "ytjgobknjnjdphaa", sum := "6e942a3659c35a70bbfd1ce86faf36e858daedb4df106634964b39565b64c10d", func := "dutyroster/dutykeep.WireBurst", spec := "wireBurst", apart := false }
def WireBurstSaid : Prop := wireBurstRow.holds Try.pinned (OpenSpec.ofChange wireBurstSpec)

/-- ITS FALSE NEIGHBOUR: 'it returns false'. Refute it at one input. -/
def wireBurstWrong : ChangeSpec := { name := "wireBurst", fn := fun _ => fun
  | [d1, d2, d3] => { results := [.lit (.bool false)], args := [d1, d2, d3] }
  | _ => none }
def WireBurstWrongFalsely : Prop := wireBurstRow.holds Try.pinned (OpenSpec.ofChange wireBurstWrong)

/-- 'dutykeep.WireJoins': WHATEVER THE INPUT: true; the input reads as it did. -/
def wireJoinsSpec : ChangeSpec := { name := "wireJoins", fn := fun _ => fun
  | [d1, d2, d3] => { results := [.lit (.bool true)], args := [d1, d2, d3] }
  | _ => none }
def wireJoinsRow : OpenClaim := { program := "ytjgobknjnjdphaa", sum := "6e942a3659c35a70bbfd1ce86faf36e858daedb4df106634964b39565b64c10d", func := "dutyroster/dutykeep.WireJoins", spec := "wireJoins", apart := false }
def WireJoinsSaid : Prop := wireJoinsRow.holds Try.pinned (OpenSpec.ofChange wireJoinsSpec)

/-- ITS FALSE NEIGHBOUR: 'it returns false'. Refute it at one input. -/
def wireJoinsWrong : ChangeSpec := { name := "wireJoins", fn := fun _ => fun
  | [d1, d2, d3] => { results := [.lit (.bool false)], args := [d1, d2, d3] }
  | _ => none }
def WireJoinsWrongFalsely : Prop := wireJoinsRow.holds Try.pinned (OpenSpec.ofChange wireJoinsWrong)

/-- 'dutykeep.WireSplit': WHATEVER THE INPUT: true; the input reads as it did. -/
def wireSplitSpec : ChangeSpec := { name := "wireSplit", fn := fun _ => fun
  | [d1, d2] => { results := [.lit (.bool true)], args := [d1, d2] }
  | _ => none }
def wireSplitRow : OpenClaim := { program := "ytjgobknjnjdphaa", sum := "6e942a3659c35a70bbfd1ce86faf36e858daedb4df106634964b39565b64c10d", func := "dutyroster/dutykeep.WireSplit", spec := "wireSplit", apart := false }
def WireSplitSaid : Prop := wireSplitRow.holds Try.pinned (OpenSpec.ofChange wireSplitSpec)

/-- ITS FALSE NEIGHBOUR: 'it returns false'. Refute it at one input. -/
def wireSplitWrong : ChangeSpec := { name := "wireSplit", fn := fun _ => fun
  | [d1, d2] => { results := [.lit (.bool false)], args := [d1, d2] }
  | _ => none }
def WireSplitWrongFalsely : Prop := wireSplitRow.holds Try.pinned (OpenSpec.ofChange wireSplitWrong)

/-- 'dutykeep.VmCuts': WHATEVER THE INPUT: true; the input reads as it did. -/
def vmCutsSpec : ChangeSpec := { name := "vmCuts", fn := fun _ => fun
  | [d1, d2, d3, d4, d5] => { results := [.lit (.bool true)], args := [d1, d2, d3, d4, d5] }
  | _ => none }
def vmCutsRow : OpenClaim := { program := "ytjgobknjnjdphaa", sum := "6e942a3659c35a70bbfd1ce86faf36e858daedb4df106634964b39565b64c10d", func := "dutyroster/dutykeep.VmCuts", spec := "vmCuts", unfollowed := true, recurses := true, apart := false }
def VmCutsSaid : Prop := vmCutsRow.holds Try.pinned (OpenSpec.ofChange vmCutsSpec)

/-- ITS FALSE NEIGHBOUR: 'it returns false'. Refute it at one input. -/
def vmCutsWrong : ChangeSpec := { name := "vmCuts", fn := fun _ => fun
  | [d1, d2, d3, d4, d5] => { results := [.lit (.bool false)], args := [d1, d2, d3, d4, d5] }
  | _ => none }
def VmCutsWrongFalsely : Prop := vmCutsRow.holds Try.pinned (OpenSpec.ofChange vmCutsWrong)

/-- 'dutykeep.VmWaits': WHATEVER THE INPUT: true; the input reads as it did. -/
def vmWaitsSpec : ChangeSpec := { name := "vmWaits", fn := fun _ => fun
  | [d1, d2, d3, d4, d5] => { results := [.lit (.bool true)], args := [d1, d2, d3, d4, d5] }
  | _ => none }
def vmWaitsRow : OpenClaim := { program := "ytjgobknjnjdphaa", sum := "6e942a3659c35a70bbfd1ce86faf36e858daedb4df106634964b39565b64c10d", func := "dutyroster/dutykeep.VmWaits", spec := "vmWaits", unfollowed := true, recurses := true, apart := false }
def VmWaitsSaid : Prop := vmWaitsRow.holds Try.pinned (OpenSpec.ofChange vmWaitsSpec)

/-- ITS FALSE NEIGHBOUR: 'it returns false'. Refute it at one input. -/
def vmWaitsWrong : ChangeSpec := { name := "vmWaits", fn := fun _ => fun
  | [d1, d2, d3, d4, d5] => { results := [.lit (.bool false)], args := [d1, d2, d3, d4, d5] }
  | _ => none }
def VmWaitsWrongFalsely : Prop := vmWaitsRow.holds Try.pinned (OpenSpec.ofChange vmWaitsWrong)

/-- 'dutykeep.VmStops': WHATEVER THE INPUT: true; the input reads as it did. -/
def vmStopsSpec : ChangeSpec := { name := "vmStops", fn := fun _ => fun
  | [d1, d2, d3, d4, d5] => { results := [.lit (.bool true)], args := [d1, d2, d3, d4, d5] }
  | _ => none }
def vmStopsRow : OpenClaim := { program := "ytjgobknjnjdphaa", sum := "6e942a3659c35a70bbfd1ce86faf36e858daedb4df106634964b39565b64c10d", func := "dutyroster/dutykeep.VmStops", spec := "vmStops", unfollowed := true, recurses := true, apart := false }
def VmStopsSaid : Prop := vmStopsRow.holds Try.pinned (OpenSpec.ofChange vmStopsSpec)

/-- ITS FALSE NEIGHBOUR: 'it returns false'. Refute it at one input. -/
def vmStopsWrong : ChangeSpec := { name := "vmStops", fn := fun _ => fun
  | [d1, d2, d3, d4, d5] => { results := [.lit (.bool false)], args := [d1, d2, d3, d4, d5] }
  | _ => none }
def VmStopsWrongFalsely : Prop := vmStopsRow.holds Try.pinned (OpenSpec.ofChange vmStopsWrong)

/-- 'dutykeep.VmBlind': WHATEVER THE INPUT: true; the input reads as it did. -/
def vmBlindSpec : ChangeSpec := { name := "vmBlind", fn := fun _ => fun
  | [d1, d2, d3, d4, d5] => { results := [.lit (.bool true)], args := [d1, d2, d3, d4, d5] }
  | _ => none }
def vmBlindRow : OpenClaim := { program := "ytjgobknjnjdphaa", sum := "6e942a3659c35a70bbfd1ce86faf36e858daedb4df106634964b39565b64c10d", func := "dutyroster/dutykeep.VmBlind", spec := "vmBlind", unfollowed := true, recurses := true, apart := false }
def VmBlindSaid : Prop := vmBlindRow.holds Try.pinned (OpenSpec.ofChange vmBlindSpec)

/-- ITS FALSE NEIGHBOUR: 'it returns false'. Refute it at one input. -/
def vmBlindWrong : ChangeSpec := { name := "vmBlind", fn := fun _ => fun
  | [d1, d2, d3, d4, d5] => { results := [.lit (.bool false)], args := [d1, d2, d3, d4, d5] }
  | _ => none }
def VmBlindWrongFalsely : Prop := vmBlindRow.holds Try.pinned (OpenSpec.ofChange vmBlindWrong)

/-- 'dutykeep.VmOwn': WHATEVER THE INPUT: true; the input reads as it did. -/
def vmOwnSpec : ChangeSpec := { name := "vmOwn", fn := fun _ => fun
  | [d1, d2, d3, d4] => { results := [.lit (.bool true)], args := [d1, d2, d3, d4] }
  | _ => none }
def vmOwnRow : OpenClaim := { program := "ytjgobknjnjdphaa", sum := "6e942a3659c35a70bbfd1ce86faf36e858daedb4df106634964b39565b64c10d", func := "dutyroster/dutykeep.VmOwn", spec := "vmOwn", unfollowed := true, recurses := true, apart := false }
def VmOwnSaid : Prop := vmOwnRow.holds Try.pinned (OpenSpec.ofChange vmOwnSpec)

/-- ITS FALSE NEIGHBOUR: 'it returns false'. Refute it at one input. -/
def vmOwnWrong : ChangeSpec := { name := "vmOwn", fn := fun _ => fun
  | [d1, d2, d3, d4] => { results := [.lit (.bool false)], args := [d1, d2, d3, d4] }
  | _ => none }
def VmOwnWrongFalsely : Prop := vmOwnRow.holds Try.pinned (OpenSpec.ofChange vmOwnWrong)

/- THE SECOND FORM. 'bulk': how many values and letters a reading holds, each counted each time it is reached (what is shared counts as often as it is met; a slice's spare places count too). A statement '..UptoSaid' is the law's where the arguments, and the package variables that the reading takes, are together of bulk at most 1048576: NARROWER than '..Said'. Prove '..Said' where nothing that the law and all that it calls make is longer than what came in: it says more and counts as full. Else prove '..UptoSaid'. A law counts once. -/
mutual
def uptoBulk {H : Type} : DataW H → Nat
  | .lit (.string bytes) => bytes.length + 1
  | .lit _ => 1
  | .nil => 1
  | .ptr d => uptoBulk d + 1
  | .slice elems spare => uptoBulkAll elems + uptoBulkAll spare + 1
  | .agg parts => uptoBulkAll parts + 1
  | .iface _ d => uptoBulk d + 1
  | .map entries => uptoBulkEntries entries + 1
  | .held _ => 1
def uptoBulkAll {H : Type} : List (DataW H) → Nat
  | [] => 0
  | d :: r => uptoBulk d + uptoBulkAll r
def uptoBulkEntries {H : Type} : List (Lit × DataW H) → Nat
  | [] => 0
  | x :: r => uptoBulkEntry x + uptoBulkEntries r
def uptoBulkEntry {H : Type} : Lit × DataW H → Nat
  | (.string bytes, d) => bytes.length + uptoBulk d + 1
  | (_, d) => uptoBulk d + 1
 end
def uptoSmall : (H : Type) → List (DataW H) → Bool := fun _ ds => decide (uptoBulkAll ds ≤ 1048576)
def OpenSpec.upto (s : _root_.Go.ChangeSpec) : _root_.Go.OpenSpec := { _root_.Go.OpenSpec.ofChange s with cond := some uptoSmall }

/-- 'dutykeep.WireBack', WHERE WHAT IT READS IS OF BULK AT MOST 1048576: true; the input reads as it did. -/
def wireBackUptoRow : OpenClaim := { program := "ytjgobknjnjdphaa", sum := "6e942a3659c35a70bbfd1ce86faf36e858daedb4df106634964b39565b64c10d", func := "dutyroster/dutykeep.WireBack", spec := "wireBack", apart := false, narrowed := true }
def WireBackUptoSaid : Prop := wireBackUptoRow.holds Try.pinned (OpenSpec.upto wireBackSpec)

/-- 'dutykeep.WireBurst', WHERE WHAT IT READS IS OF BULK AT MOST 1048576: true; the input reads as it did. -/
def wireBurstUptoRow : OpenClaim := { program := "ytjgobknjnjdphaa", sum := "6e942a3659c35a70bbfd1ce86faf36e858daedb4df106634964b39565b64c10d", func := "dutyroster/dutykeep.WireBurst", spec := "wireBurst", apart := false, narrowed := true }
def WireBurstUptoSaid : Prop := wireBurstUptoRow.holds Try.pinned (OpenSpec.upto wireBurstSpec)

/-- 'dutykeep.WireJoins', WHERE WHAT IT READS IS OF BULK AT MOST 1048576: true; the input reads as it did. -/
def wireJoinsUptoRow : OpenClaim := { program := "ytjgobknjnjdphaa", sum := "6e942a3659c35a70bbfd1ce86faf36e858daedb4df106634964b39565b64c10d", func := "dutyroster/dutykeep.WireJoins", spec := "wireJoins", apart := false, narrowed := true }
def WireJoinsUptoSaid : Prop := wireJoinsUptoRow.holds Try.pinned (OpenSpec.upto wireJoinsSpec)

/-- 'dutykeep.WireSplit', WHERE WHAT IT READS IS OF BULK AT MOST 1048576: true; the input reads as it did. -/
def wireSplitUptoRow : OpenClaim := { program := "ytjgobknjnjdphaa", sum := "6e942a3659c35a70bbfd1ce86faf36e858daedb4df106634964b39565b64c10d", func := "dutyroster/dutykeep.WireSplit", spec := "wireSplit", apart := false, narrowed := true }
def WireSplitUptoSaid : Prop := wireSplitUptoRow.holds Try.pinned (OpenSpec.upto wireSplitSpec)

/-- 'dutykeep.VmCuts', WHERE WHAT IT READS IS OF BULK AT MOST 1048576: true; the input reads as it did. -/
def vmCutsUptoRow : OpenClaim := { program := "ytjgobknjnjdphaa", sum := "6e942a3659c35a70bbfd1ce86faf36e858daedb4df106634964b39565b64c10d", func := "dutyroster/dutykeep.VmCuts", spec := "vmCuts", unfollowed := true, recurses := true, apart := false, narrowed := true }
def VmCutsUptoSaid : Prop := vmCutsUptoRow.holds Try.pinned (OpenSpec.upto vmCutsSpec)

/-- 'dutykeep.VmWaits', WHERE WHAT IT READS IS OF BULK AT MOST 1048576: true; the input reads as it did. -/
def vmWaitsUptoRow : OpenClaim := { program := "ytjgobknjnjdphaa", sum := "6e942a3659c35a70bbfd1ce86faf36e858daedb4df106634964b39565b64c10d", func := "dutyroster/dutykeep.VmWaits", spec := "vmWaits", unfollowed := true, recurses := true, apart := false, narrowed := true }
def VmWaitsUptoSaid : Prop := vmWaitsUptoRow.holds Try.pinned (OpenSpec.upto vmWaitsSpec)

/-- 'dutykeep.VmStops', WHERE WHAT IT READS IS OF BULK AT MOST 1048576: true; the input reads as it did. -/
def vmStopsUptoRow : OpenClaim := { program := "ytjgobknjnjdphaa", sum := "6e942a3659c35a70bbfd1ce86faf36e858daedb4df106634964b39565b64c10d", func := "dutyroster/dutykeep.VmStops", spec := "vmStops", unfollowed := true, recurses := true, apart := false, narrowed := true }
def VmStopsUptoSaid : Prop := vmStopsUptoRow.holds Try.pinned (OpenSpec.upto vmStopsSpec)

/-- 'dutykeep.VmBlind', WHERE WHAT IT READS IS OF BULK AT MOST 1048576: true; the input reads as it did. -/
def vmBlindUptoRow : OpenClaim := { program := "ytjgobknjnjdphaa", sum := "6e942a3659c35a70bbfd1ce86faf36e858daedb4df106634964b39565b64c10d", func := "dutyroster/dutykeep.VmBlind", spec := "vmBlind", unfollowed := true, recurses := true, apart := false, narrowed := true }
def VmBlindUptoSaid : Prop := vmBlindUptoRow.holds Try.pinned (OpenSpec.upto vmBlindSpec)

/-- 'dutykeep.VmOwn', WHERE WHAT IT READS IS OF BULK AT MOST 1048576: true; the input reads as it did. -/
def vmOwnUptoRow : OpenClaim := { program := "ytjgobknjnjdphaa", sum := "6e942a3659c35a70bbfd1ce86faf36e858daedb4df106634964b39565b64c10d", func := "dutyroster/dutykeep.VmOwn", spec := "vmOwn", unfollowed := true, recurses := true, apart := false, narrowed := true }
def VmOwnUptoSaid : Prop := vmOwnUptoRow.holds Try.pinned (OpenSpec.upto vmOwnSpec)

end Rows
end Go.Proofs.Ytjgobknjnjdphaa
