/-
  No cell of these rows narrows 'for every input' (looked for: loops, veiled, ifaces, maps, wideKeys, modest, calm, conditions, laid).
  DERIVED. THE GIVEN ROWS OF THIS SEAT. 6 by the template 'for every input the law returns true; each argument reads behind the call as it read before'; 0 by the template 'total and deterministic' (their statements: YthgmnejlhljlaaaTotals.lean).
  GIVEN WITH THE SEED: the statements are not yours to turn. If you find one false, say at which input.
  Laid BY PROGRAM, IN A SANDBOX (cutbox-rows.mjs): the forced cells as the released guide's own fill.sh prints them over the translation cd866cac92cf3c31… (all of the seat's roots in one cut). By AI agents, Wed Nov 11 2026. No macro, syntax, notation, axiom, sorry.
-/
import Derived.Test.YthgmnejlhljlaaaChecked
import GoSem.Claim
import GoSem.ClaimJoined
import GoSem.ClaimMapViews
import Derived.JoinedTies
import Derived.KernelRfl
namespace Go.Proofs.Ythgmnejlhljlaaa
/- THE CELL 'sum', in the pinned program and in every row, IS THE sha256 OF THE DUMP (.gsa) THAT YthgmnejlhljlaaaProg.lean LOADS. Nothing in Lean hashes anything: it is a label: what it is worth is what the hold of that sum in a sandbox is worth. -/
noncomputable def Try.pinned : Pinned := { name := "ythgmnejlhljlaaa", sum := "cd866cac92cf3c3122e6b7401b45ce076c019d71e7e4a4ea8da80bfdf09944bb", checked := Try.checked }
namespace Rows
def none {H : Type} : Left H := { results := [], args := [] }

/-- 'dutykeep.PlayOn': WHATEVER THE INPUT: true; the input reads as it did. -/
def playOnSpec : ChangeSpec := { name := "playOn", fn := fun _ => fun
  | [d1, d2, d3, d4, d5, d6] => { results := [.lit (.bool true)], args := [d1, d2, d3, d4, d5, d6] }
  | _ => none }
def playOnRow : OpenClaim := { program := "ythgmnejlhljlaaa", sum := "cd866cac92cf3c3122e6b7401b45ce076c019d71e7e4a4ea8da80bfdf09944bb", func := "dutyroster/dutykeep.PlayOn", spec := "playOn", unfollowed := true, recurses := true, plainKeys := false, apart := false }
def PlayOnSaid : Prop := playOnRow.holds Try.pinned (OpenSpec.ofChange playOnSpec)

/-- ITS FALSE NEIGHBOUR: 'it returns false'. Refute it at one input. -/
def playOnWrong : ChangeSpec := { name := "playOn", fn := fun _ => fun
  | [d1, d2, d3, d4, d5, d6] => { results := [.lit (.bool false)], args := [d1, d2, d3, d4, d5, d6] }
  | _ => none }
def PlayOnWrongFalsely : Prop := playOnRow.holds Try.pinned (OpenSpec.ofChange playOnWrong)

/-- 'dutykeep.PlayWork': WHATEVER THE INPUT: true; the input reads as it did. -/
def playWorkSpec : ChangeSpec := { name := "playWork", fn := fun _ => fun
  | [d1, d2, d3, d4, d5] => { results := [.lit (.bool true)], args := [d1, d2, d3, d4, d5] }
  | _ => none }
def playWorkRow : OpenClaim := { program := "ythgmnejlhljlaaa", sum := "cd866cac92cf3c3122e6b7401b45ce076c019d71e7e4a4ea8da80bfdf09944bb", func := "dutyroster/dutykeep.PlayWork", spec := "playWork", unfollowed := true, recurses := true, plainKeys := false, apart := false }
def PlayWorkSaid : Prop := playWorkRow.holds Try.pinned (OpenSpec.ofChange playWorkSpec)

/-- ITS FALSE NEIGHBOUR: 'it returns false'. Refute it at one input. -/
def playWorkWrong : ChangeSpec := { name := "playWork", fn := fun _ => fun
  | [d1, d2, d3, d4, d5] => { results := [.lit (.bool false)], args := [d1, d2, d3, d4, d5] }
  | _ => none }
def PlayWorkWrongFalsely : Prop := playWorkRow.holds Try.pinned (OpenSpec.ofChange playWorkWrong)

/-- 'dutykeep.PlayAhead': WHATEVER THE INPUT: true; the input reads as it did. -/
def playAheadSpec : ChangeSpec := { name := "playAhead", fn := fun _ => fun
  | [d1, d2, d3, d4, d5] => { results := [.lit (.bool true)], args := [d1, d2, d3, d4, d5] }
  | _ => none }
def playAheadRow : OpenClaim := { program := "ythgmnejlhljlaaa", sum := "cd866cac92cf3c3122e6b7401b45ce076c019d71e7e4a4ea8da80bfdf09944bb", func := "dutyroster/dutykeep.PlayAhead", spec := "playAhead", unfollowed := true, recurses := true, plainKeys := false, apart := false }
def PlayAheadSaid : Prop := playAheadRow.holds Try.pinned (OpenSpec.ofChange playAheadSpec)

/-- ITS FALSE NEIGHBOUR: 'it returns false'. Refute it at one input. -/
def playAheadWrong : ChangeSpec := { name := "playAhead", fn := fun _ => fun
  | [d1, d2, d3, d4, d5] => { results := [.lit (.bool false)], args := [d1, d2, d3, d4, d5] }
  | _ => none }
def PlayAheadWrongFalsely : Prop := playAheadRow.holds Try.pinned (OpenSpec.ofChange playAheadWrong)

/-- 'dutykeep.PlayBest': WHATEVER THE INPUT: true; the input reads as it did. -/
def playBestSpec : ChangeSpec := { name := "playBest", fn := fun _ => fun
  | [d1, d2, d3, d4] => { results := [.lit (.bool true)], args := [d1, d2, d3, d4] }
  | _ => none }
def playBestRow : OpenClaim := { program := "ythgmnejlhljlaaa", sum := "cd866cac92cf3c3122e6b7401b45ce076c019d71e7e4a4ea8da80bfdf09944bb", func := "dutyroster/dutykeep.PlayBest", spec := "playBest", unfollowed := true, recurses := true, plainKeys := false, apart := false }
def PlayBestSaid : Prop := playBestRow.holds Try.pinned (OpenSpec.ofChange playBestSpec)

/-- ITS FALSE NEIGHBOUR: 'it returns false'. Refute it at one input. -/
def playBestWrong : ChangeSpec := { name := "playBest", fn := fun _ => fun
  | [d1, d2, d3, d4] => { results := [.lit (.bool false)], args := [d1, d2, d3, d4] }
  | _ => none }
def PlayBestWrongFalsely : Prop := playBestRow.holds Try.pinned (OpenSpec.ofChange playBestWrong)

/-- 'dutykeep.PlayFits': WHATEVER THE INPUT: true; the input reads as it did. -/
def playFitsSpec : ChangeSpec := { name := "playFits", fn := fun _ => fun
  | [d1, d2, d3, d4] => { results := [.lit (.bool true)], args := [d1, d2, d3, d4] }
  | _ => none }
def playFitsRow : OpenClaim := { program := "ythgmnejlhljlaaa", sum := "cd866cac92cf3c3122e6b7401b45ce076c019d71e7e4a4ea8da80bfdf09944bb", func := "dutyroster/dutykeep.PlayFits", spec := "playFits", unfollowed := true, recurses := true, plainKeys := false, apart := false }
def PlayFitsSaid : Prop := playFitsRow.holds Try.pinned (OpenSpec.ofChange playFitsSpec)

/-- ITS FALSE NEIGHBOUR: 'it returns false'. Refute it at one input. -/
def playFitsWrong : ChangeSpec := { name := "playFits", fn := fun _ => fun
  | [d1, d2, d3, d4] => { results := [.lit (.bool false)], args := [d1, d2, d3, d4] }
  | _ => none }
def PlayFitsWrongFalsely : Prop := playFitsRow.holds Try.pinned (OpenSpec.ofChange playFitsWrong)

/-- 'dutykeep.PlayMisses': WHATEVER THE INPUT: true; the input reads as it did. -/
def playMissesSpec : ChangeSpec := { name := "playMisses", fn := fun _ => fun
  | [d1, d2] => { results := [.lit (.bool true)], args := [d1, d2] }
  | _ => none }
def playMissesRow : OpenClaim := { program := "ythgmnejlhljlaaa", sum := "cd866cac92cf3c3122e6b7401b45ce076c019d71e7e4a4ea8da80bfdf09944bb", func := "dutyroster/dutykeep.PlayMisses", spec := "playMisses", unfollowed := true, recurses := true, plainKeys := false, apart := false }
def PlayMissesSaid : Prop := playMissesRow.holds Try.pinned (OpenSpec.ofChange playMissesSpec)

/-- ITS FALSE NEIGHBOUR: 'it returns false'. Refute it at one input. -/
def playMissesWrong : ChangeSpec := { name := "playMisses", fn := fun _ => fun
  | [d1, d2] => { results := [.lit (.bool false)], args := [d1, d2] }
  | _ => none }
def PlayMissesWrongFalsely : Prop := playMissesRow.holds Try.pinned (OpenSpec.ofChange playMissesWrong)

/- THE SECOND FORM. 'bulk': how many values and letters a reading holds, each counted each time it is reached (what is shared counts as often as it is met; a slice's spare places count too). A statement '..UptoSaid' is the law's where the arguments, and the package variables that the reading takes, are together of bulk at most 1048576: NARROWER than '..Said'. Prove '..Said' where nothing that the law and all that it calls make is longer than what came in: it says more and counts as full. Else prove '..UptoSaid'. A law counts once. -/
mutual
def uptoBulk {H : Type} : DataW H → Nat
  | .lit (.string bytes) => bytes.length + 1
  | .lit _ => 1
  | .nil => 1
  | .ptr d => uptoBulk d + 1
  | .slice elems spare => uptoBulkAll elems + uptoBulkAll spare + 1
  | .agg parts => uptoBulkAll parts + 1
  | .iface _ d => uptoBulk d + 1
  | .map entries => uptoBulkEntries entries + 1
  | .held _ => 1
def uptoBulkAll {H : Type} : List (DataW H) → Nat
  | [] => 0
  | d :: r => uptoBulk d + uptoBulkAll r
def uptoBulkEntries {H : Type} : List (Lit × DataW H) → Nat
  | [] => 0
  | x :: r => uptoBulkEntry x + uptoBulkEntries r
def uptoBulkEntry {H : Type} : Lit × DataW H → Nat
  | (.string bytes, d) => bytes.length + uptoBulk d + 1
  | (_, d) => uptoBulk d + 1
 end
def uptoSmall : (H : Type) → List (DataW H) → Bool := fun _ ds => decide (uptoBulkAll ds ≤ 1048576)
def OpenSpec.upto (s : _root_.Go.ChangeSpec) : _root_.Go.OpenSpec := { _root_.Go.OpenSpec.ofChange s with cond := some uptoSmall }

/-- 'dutykeep.PlayOn', WHERE WHAT IT READS IS OF BULK AT MOST 1048576: true; the input reads as it did. -/
def playOnUptoRow : OpenClaim := { program := "ythgmnejlhljlaaa", sum := "cd866cac92cf3c3122e6b7401b45ce076c019d71e7e4a4ea8da80bfdf09944bb", func := "dutyroster/dutykeep.PlayOn", spec := "playOn", unfollowed := true, recurses := true, plainKeys := false, apart := false, narrowed := true }
def PlayOnUptoSaid : Prop := playOnUptoRow.holds Try.pinned (OpenSpec.upto playOnSpec)

/-- 'dutykeep.PlayWork', WHERE WHAT IT READS IS OF BULK AT MOST 1048576: true; the input reads as it did. -/
def playWorkUptoRow : OpenClaim := { program := "ythgmnejlhljlaaa", sum := "cd866cac92cf3c3122e6b7401b45ce076c019d71e7e4a4ea8da80bfdf09944bb", func := "dutyroster/dutykeep.PlayWork", spec := "playWork", unfollowed := true, recurses := true, plainKeys := false, apart := false, narrowed := true }
def PlayWorkUptoSaid : Prop := playWorkUptoRow.holds Try.pinned (OpenSpec.upto playWorkSpec)

/-- 'dutykeep.PlayAhead', WHERE WHAT IT READS IS OF BULK AT MOST 1048576: true; the input reads as it did. -/
def playAheadUptoRow : OpenClaim := { program := "ythgmnejlhljlaaa", sum := "cd866cac92cf3c3122e6b7401b45ce076c019d71e7e4a4ea8da80bfdf09944bb", func := "dutyroster/dutykeep.PlayAhead", spec := "playAhead", unfollowed := true, recurses := true, plainKeys := false, apart := false, narrowed := true }
def PlayAheadUptoSaid : Prop := playAheadUptoRow.holds Try.pinned (OpenSpec.upto playAheadSpec)

/-- 'dutykeep.PlayBest', WHERE WHAT IT READS IS OF BULK AT MOST 1048576: true; the input reads as it did. -/
def playBestUptoRow : OpenClaim := { program := "ythgmnejlhljlaaa", sum := "cd866cac92cf3c3122e6b7401b45ce076c019d71e7e4a4ea8da80bfdf09944bb", func := "dutyroster/dutykeep.PlayBest", spec := "playBest", unfollowed := true, recurses := true, plainKeys := false, apart := false, narrowed := true }
def PlayBestUptoSaid : Prop := playBestUptoRow.holds Try.pinned (OpenSpec.upto playBestSpec)

/-- 'dutykeep.PlayFits', WHERE WHAT IT READS IS OF BULK AT MOST 1048576: true; the input reads as it did. -/
def playFitsUptoRow : OpenClaim := { program := "ythgmnejlhljlaaa", sum := "cd866cac92cf3c3122e6b7401b45ce076c019d71e7e4a4ea8da80bfdf09944bb", func := "dutyroster/dutykeep.PlayFits", spec := "playFits", unfollowed := true, recurses := true, plainKeys := false, apart := false, narrowed := true }
def PlayFitsUptoSaid : Prop := playFitsUptoRow.holds Try.pinned (OpenSpec.upto playFitsSpec)

/-- 'dutykeep.PlayMisses', WHERE WHAT IT READS IS OF BULK AT MOST 1048576: true; the input reads as it did. -/
def playMissesUptoRow : OpenClaim := { program := "ythgmnejlhljlaaa", sum := "cd866cac92cf3c3122e6b7401b45ce076c019d71e7e4a4ea8da80bfdf09944bb", func := "dutyroster/dutykeep.PlayMisses", spec := "playMisses", unfollowed := true, recurses := true, plainKeys := false, apart := false, narrowed := true }
def PlayMissesUptoSaid : Prop := playMissesUptoRow.holds Try.pinned (OpenSpec.upto playMissesSpec)

end Rows
end Go.Proofs.Ythgmnejlhljlaaa
