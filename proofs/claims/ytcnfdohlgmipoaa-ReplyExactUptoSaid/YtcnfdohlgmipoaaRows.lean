/-
  No cell of these rows narrows 'for every input' (looked for: loops, veiled, ifaces, maps, wideKeys, modest, calm, conditions, laid).
  DERIVED. THE GIVEN ROWS OF THIS SEAT. 4 by the template 'for every input the law returns true; each argument reads behind the call as it read before'; 0 by the template 'total and deterministic' (their statements: YtcnfdohlgmipoaaTotals.lean).
  GIVEN WITH THE SEED: the statements are not yours to turn. If you find one false, say at which input.
  Laid BY PROGRAM, IN A SANDBOX (cutbox-rows.mjs): the forced cells as the released guide's own fill.sh prints them over the translation 19d479abfbbe532d… (all of the seat's roots in one cut). By AI agents, Wed Nov 11 2026. No macro, syntax, notation, axiom, sorry.
-/
import Derived.Test.YtcnfdohlgmipoaaChecked
import GoSem.Claim
import GoSem.ClaimJoined
import GoSem.ClaimMapViews
import Derived.JoinedTies
import Derived.KernelRfl
namespace Go.Proofs.Ytcnfdohlgmipoaa
/- THE CELL 'sum', in the pinned program and in every row, IS THE sha256 OF THE DUMP (.gsa) THAT YtcnfdohlgmipoaaProg.lean LOADS. Nothing in Lean hashes anything: it is a label: what it is worth is what the hold of that sum in a sandbox is worth. -/
noncomputable def Try.pinned : Pinned := { name := "ytcnfdohlgmipoaa", sum := "19d479abfbbe532d8ea68cc82e9f64b70b718203c513148bc03743ec5c94d8ba", checked := Try.checked }
namespace Rows
def none {H : Type} : Left H := { results := [], args := [] }

/-- 'dutykeep.ReplyAhead': WHATEVER THE INPUT: true; the input reads as it did. -/
def replyAheadSpec : ChangeSpec := { name := "replyAhead", fn := fun _ => fun
  | [d1, d2, d3, d4] => { results := [.lit (.bool true)], args := [d1, d2, d3, d4] }
  | _ => none }
def replyAheadRow : OpenClaim := { program := "ytcnfdohlgmipoaa", sum := "19d479abfbbe532d8ea68cc82e9f64b70b718203c513148bc03743ec5c94d8ba", func := "dutyroster/dutykeep.ReplyAhead", spec := "replyAhead", unfollowed := true, recurses := true, plainKeys := false, apart := false }
def ReplyAheadSaid : Prop := replyAheadRow.holds Try.pinned (OpenSpec.ofChange replyAheadSpec)

/-- ITS FALSE NEIGHBOUR: 'it returns false'. Refute it at one input. -/
def replyAheadWrong : ChangeSpec := { name := "replyAhead", fn := fun _ => fun
  | [d1, d2, d3, d4] => { results := [.lit (.bool false)], args := [d1, d2, d3, d4] }
  | _ => none }
def ReplyAheadWrongFalsely : Prop := replyAheadRow.holds Try.pinned (OpenSpec.ofChange replyAheadWrong)

/-- 'dutykeep.ReplyExact': WHATEVER THE INPUT: true; the input reads as it did. -/
def replyExactSpec : ChangeSpec := { name := "replyExact", fn := fun _ => fun
  | [d1, d2] => { results := [.lit (.bool true)], args := [d1, d2] }
  | _ => none }
def replyExactRow : OpenClaim := { program := "ytcnfdohlgmipoaa", sum := "19d479abfbbe532d8ea68cc82e9f64b70b718203c513148bc03743ec5c94d8ba", func := "dutyroster/dutykeep.ReplyExact", spec := "replyExact", unfollowed := true, recurses := true, plainKeys := false, apart := false }
def ReplyExactSaid : Prop := replyExactRow.holds Try.pinned (OpenSpec.ofChange replyExactSpec)

/-- ITS FALSE NEIGHBOUR: 'it returns false'. Refute it at one input. -/
def replyExactWrong : ChangeSpec := { name := "replyExact", fn := fun _ => fun
  | [d1, d2] => { results := [.lit (.bool false)], args := [d1, d2] }
  | _ => none }
def ReplyExactWrongFalsely : Prop := replyExactRow.holds Try.pinned (OpenSpec.ofChange replyExactWrong)

/-- 'dutykeep.ReplyHolds': WHATEVER THE INPUT: true; the input reads as it did. -/
def replyHoldsSpec : ChangeSpec := { name := "replyHolds", fn := fun _ => fun
  | [d1, d2, d3, d4] => { results := [.lit (.bool true)], args := [d1, d2, d3, d4] }
  | _ => none }
def replyHoldsRow : OpenClaim := { program := "ytcnfdohlgmipoaa", sum := "19d479abfbbe532d8ea68cc82e9f64b70b718203c513148bc03743ec5c94d8ba", func := "dutyroster/dutykeep.ReplyHolds", spec := "replyHolds", unfollowed := true, recurses := true, plainKeys := false, apart := false }
def ReplyHoldsSaid : Prop := replyHoldsRow.holds Try.pinned (OpenSpec.ofChange replyHoldsSpec)

/-- ITS FALSE NEIGHBOUR: 'it returns false'. Refute it at one input. -/
def replyHoldsWrong : ChangeSpec := { name := "replyHolds", fn := fun _ => fun
  | [d1, d2, d3, d4] => { results := [.lit (.bool false)], args := [d1, d2, d3, d4] }
  | _ => none }
def ReplyHoldsWrongFalsely : Prop := replyHoldsRow.holds Try.pinned (OpenSpec.ofChange replyHoldsWrong)

/-- 'dutykeep.ReplyFits': WHATEVER THE INPUT: true; the input reads as it did. -/
def replyFitsSpec : ChangeSpec := { name := "replyFits", fn := fun _ => fun
  | [d1, d2, d3, d4] => { results := [.lit (.bool true)], args := [d1, d2, d3, d4] }
  | _ => none }
def replyFitsRow : OpenClaim := { program := "ytcnfdohlgmipoaa", sum := "19d479abfbbe532d8ea68cc82e9f64b70b718203c513148bc03743ec5c94d8ba", func := "dutyroster/dutykeep.ReplyFits", spec := "replyFits", unfollowed := true, recurses := true, plainKeys := false, apart := false }
def ReplyFitsSaid : Prop := replyFitsRow.holds Try.pinned (OpenSpec.ofChange replyFitsSpec)

/-- ITS FALSE NEIGHBOUR: 'it returns false'. Refute it at one input. -/
def replyFitsWrong : ChangeSpec := { name := "replyFits", fn := fun _ => fun
  | [d1, d2, d3, d4] => { results := [.lit (.bool false)], args := [d1, d2, d3, d4] }
  | _ => none }
def ReplyFitsWrongFalsely : Prop := replyFitsRow.holds Try.pinned (OpenSpec.ofChange replyFitsWrong)

/- THE SECOND FORM. 'bulk': how many values and letters a reading holds, each counted each time it is reached (what is shared counts as often as it is met; a slice's spare places count too). A statement '..UptoSaid' is the law's where the arguments, and the package variables that the reading takes, are together of bulk at most 1048576: NARROWER than '..Said'. Prove '..Said' where nothing that the law and all that it calls make is longer than what came in: it says more and counts as full. Else prove '..UptoSaid'. A law counts once. -/
mutual
def uptoBulk {H : Type} : DataW H → Nat
  | .lit (.string bytes) => bytes.length + 1
  | .lit _ => 1
  | .nil => 1
  | .ptr d => uptoBulk d + 1
  | .slice elems spare => uptoBulkAll elems + uptoBulkAll spare + 1
  | .agg parts => uptoBulkAll parts + 1
  | .iface _ d => uptoBulk d + 1
  | .map entries => uptoBulkEntries entries + 1
  | .held _ => 1
def uptoBulkAll {H : Type} : List (DataW H) → Nat
  | [] => 0
  | d :: r => uptoBulk d + uptoBulkAll r
def uptoBulkEntries {H : Type} : List (Lit × DataW H) → Nat
  | [] => 0
  | x :: r => uptoBulkEntry x + uptoBulkEntries r
def uptoBulkEntry {H : Type} : Lit × DataW H → Nat
  | (.string bytes, d) => bytes.length + uptoBulk d + 1
  | (_, d) => uptoBulk d + 1
 end
def uptoSmall : (H : Type) → List (DataW H) → Bool := fun _ ds => decide (uptoBulkAll ds ≤ 1048576)
def OpenSpec.upto (s : _root_.Go.ChangeSpec) : _root_.Go.OpenSpec := { _root_.Go.OpenSpec.ofChange s with cond := some uptoSmall }

/-- 'dutykeep.ReplyAhead', WHERE WHAT IT READS IS OF BULK AT MOST 1048576: true; the input reads as it did. -/
def replyAheadUptoRow : OpenClaim := { program := "ytcnfdohlgmipoaa", sum := "19d479abfbbe532d8ea68cc82e9f64b70b718203c513148bc03743ec5c94d8ba", func := "dutyroster/dutykeep.ReplyAhead", spec := "replyAhead", unfollowed := true, recurses := true, plainKeys := false, apart := false, narrowed := true }
def ReplyAheadUptoSaid : Prop := replyAheadUptoRow.holds Try.pinned (OpenSpec.upto replyAheadSpec)

/-- 'dutykeep.ReplyExact', WHERE WHAT IT READS IS OF BULK AT MOST 1048576: true; the input reads as it did. -/
def replyExactUptoRow : OpenClaim := { program := "ytcnfdohlgmipoaa", sum := "19d479abfbbe532d8ea68cc82e9f64b70b718203c513148bc03743ec5c94d8ba", func := "dutyroster/dutykeep.ReplyExact", spec := "replyExact", unfollowed := true, recurses := true, plainKeys := false, apart := false, narrowed := true }
def ReplyExactUptoSaid : Prop := replyExactUptoRow.holds Try.pinned (OpenSpec.upto replyExactSpec)

/-- 'dutykeep.ReplyHolds', WHERE WHAT IT READS IS OF BULK AT MOST 1048576: true; the input reads as it did. -/
def replyHoldsUptoRow : OpenClaim := { program := "ytcnfdohlgmipoaa", sum := "19d479abfbbe532d8ea68cc82e9f64b70b718203c513148bc03743ec5c94d8ba", func := "dutyroster/dutykeep.ReplyHolds", spec := "replyHolds", unfollowed := true, recurses := true, plainKeys := false, apart := false, narrowed := true }
def ReplyHoldsUptoSaid : Prop := replyHoldsUptoRow.holds Try.pinned (OpenSpec.upto replyHoldsSpec)

/-- 'dutykeep.ReplyFits', WHERE WHAT IT READS IS OF BULK AT MOST 1048576: true; the input reads as it did. -/
def replyFitsUptoRow : OpenClaim := { program := "ytcnfdohlgmipoaa", sum := "19d479abfbbe532d8ea68cc82e9f64b70b718203c513148bc03743ec5c94d8ba", func := "dutyroster/dutykeep.ReplyFits", spec := "replyFits", unfollowed := true, recurses := true, plainKeys := false, apart := false, narrowed := true }
def ReplyFitsUptoSaid : Prop := replyFitsUptoRow.holds Try.pinned (OpenSpec.upto replyFitsSpec)

end Rows
end Go.Proofs.Ytcnfdohlgmipoaa
