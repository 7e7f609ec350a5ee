/-
  No cell of these rows narrows 'for every input' (looked for: loops, veiled, ifaces, maps, wideKeys, modest, calm, conditions, laid).
  DERIVED. THE GIVEN ROWS OF THIS SEAT. 13 by the template 'for every input the law returns true; each argument reads behind the call as it read before'; 0 by the template 'total and deterministic' (their statements: YtabchkekhpmpiaaTotals.lean).
  GIVEN WITH THE SEED: the statements are not yours to turn. If you find one false, say at which input.
  Laid BY PROGRAM, IN A SANDBOX (cutbox-rows.mjs): the forced cells as the released guide's own fill.sh prints them over the translation 7fcb8fd657f4172b… (all of the seat's roots in one cut). By AI agents, Wed Nov 11 2026. No macro, syntax, notation, axiom, sorry.
-/
import Derived.Test.YtabchkekhpmpiaaChecked
import GoSem.Claim
import GoSem.ClaimJoined
import GoSem.ClaimMapViews
import Derived.JoinedTies
import Derived.KernelRfl
namespace Go.Proofs.Ytabchkekhpmpiaa
/- THE CELL 'sum', in the pinned program and in every row, IS THE sha256 OF THE DUMP (.gsa) THAT YtabchkekhpmpiaaProg.lean LOADS. Nothing in Lean hashes anything: it is a label: what it is worth is what the hold of that sum in a sandbox is worth. -/
noncomputable def Try.pinned : Pinned := { name := "ytabchkekhpmpiaa", sum := "7fcb8fd657f4172be9bbe4d2fb74acad7eef9a4e311cb7d8be349bb67fa871b9", checked := Try.checked }
namespace Rows
def none {H : Type} : Left H := { results := [], args := [] }

/-- 'dutykeep.ReplyAhead': WHATEVER THE INPUT: true; the input reads as it did. -/
def replyAheadSpec : ChangeSpec := { name := "replyAhead", fn := fun _ => fun
  | [d1, d2, d3, d4] => { results := [.lit (.bool true)], args := [d1, d2, d3, d4] }
  | _ => none }
def replyAheadRow : OpenClaim := { program := "ytabchkekhpmpiaa", sum := "7fcb8fd657f4172be9bbe4d2fb74acad7eef9a4e311cb7d8be349bb67fa871b9", func := "dutyroster/dutykeep.ReplyAhead", spec := "replyAhead", unfollowed := true, recurses := true, plainKeys := false, apart := false }
def ReplyAheadSaid : Prop := replyAheadRow.holds Try.pinned (OpenSpec.ofChange replyAheadSpec)

/-- ITS FALSE NEIGHBOUR: 'it returns false'. Refute it at one input. -/
def replyAheadWrong : ChangeSpec := { name := "replyAhead", fn := fun _ => fun
  | [d1, d2, d3, d4] => { results := [.lit (.bool false)], args := [d1, d2, d3, d4] }
  | _ => none }
def ReplyAheadWrongFalsely : Prop := replyAheadRow.holds Try.pinned (OpenSpec.ofChange replyAheadWrong)

/-- 'dutykeep.RankOrder': WHATEVER THE INPUT: true; the input reads as it did. -/
def rankOrderSpec : ChangeSpec := { name := "rankOrder", fn := fun _ => fun
  | [d1, d2] => { results := [.lit (.bool true)], args := [d1, d2] }
  | _ => none }
def rankOrderRow : OpenClaim := { program := "ytabchkekhpmpiaa", sum := "7fcb8fd657f4172be9bbe4d2fb74acad7eef9a4e311cb7d8be349bb67fa871b9", func := "dutyroster/dutykeep.RankOrder", spec := "rankOrder", unfollowed := true, recurses := true, plainKeys := false, apart := false }
def RankOrderSaid : Prop := rankOrderRow.holds Try.pinned (OpenSpec.ofChange rankOrderSpec)

/-- ITS FALSE NEIGHBOUR: 'it returns false'. Refute it at one input. -/
def rankOrderWrong : ChangeSpec := { name := "rankOrder", fn := fun _ => fun
  | [d1, d2] => { results := [.lit (.bool false)], args := [d1, d2] }
  | _ => none }
def RankOrderWrongFalsely : Prop := rankOrderRow.holds Try.pinned (OpenSpec.ofChange rankOrderWrong)

/-- 'dutykeep.RankAudsley': WHATEVER THE INPUT: true; the input reads as it did. -/
def rankAudsleySpec : ChangeSpec := { name := "rankAudsley", fn := fun _ => fun
  | [d1, d2, d3] => { results := [.lit (.bool true)], args := [d1, d2, d3] }
  | _ => none }
def rankAudsleyRow : OpenClaim := { program := "ytabchkekhpmpiaa", sum := "7fcb8fd657f4172be9bbe4d2fb74acad7eef9a4e311cb7d8be349bb67fa871b9", func := "dutyroster/dutykeep.RankAudsley", spec := "rankAudsley", unfollowed := true, recurses := true, plainKeys := false, apart := false }
def RankAudsleySaid : Prop := rankAudsleyRow.holds Try.pinned (OpenSpec.ofChange rankAudsleySpec)

/-- ITS FALSE NEIGHBOUR: 'it returns false'. Refute it at one input. -/
def rankAudsleyWrong : ChangeSpec := { name := "rankAudsley", fn := fun _ => fun
  | [d1, d2, d3] => { results := [.lit (.bool false)], args := [d1, d2, d3] }
  | _ => none }
def RankAudsleyWrongFalsely : Prop := rankAudsleyRow.holds Try.pinned (OpenSpec.ofChange rankAudsleyWrong)

/-- 'dutykeep.RankDue': WHATEVER THE INPUT: true; the input reads as it did. -/
def rankDueSpec : ChangeSpec := { name := "rankDue", fn := fun _ => fun
  | [d1, d2, d3] => { results := [.lit (.bool true)], args := [d1, d2, d3] }
  | _ => none }
def rankDueRow : OpenClaim := { program := "ytabchkekhpmpiaa", sum := "7fcb8fd657f4172be9bbe4d2fb74acad7eef9a4e311cb7d8be349bb67fa871b9", func := "dutyroster/dutykeep.RankDue", spec := "rankDue", unfollowed := true, recurses := true, plainKeys := false, apart := false }
def RankDueSaid : Prop := rankDueRow.holds Try.pinned (OpenSpec.ofChange rankDueSpec)

/-- ITS FALSE NEIGHBOUR: 'it returns false'. Refute it at one input. -/
def rankDueWrong : ChangeSpec := { name := "rankDue", fn := fun _ => fun
  | [d1, d2, d3] => { results := [.lit (.bool false)], args := [d1, d2, d3] }
  | _ => none }
def RankDueWrongFalsely : Prop := rankDueRow.holds Try.pinned (OpenSpec.ofChange rankDueWrong)

/-- 'dutykeep.RankEvery': WHATEVER THE INPUT: true; the input reads as it did. -/
def rankEverySpec : ChangeSpec := { name := "rankEvery", fn := fun _ => fun
  | [d1, d2, d3] => { results := [.lit (.bool true)], args := [d1, d2, d3] }
  | _ => none }
def rankEveryRow : OpenClaim := { program := "ytabchkekhpmpiaa", sum := "7fcb8fd657f4172be9bbe4d2fb74acad7eef9a4e311cb7d8be349bb67fa871b9", func := "dutyroster/dutykeep.RankEvery", spec := "rankEvery", unfollowed := true, recurses := true, plainKeys := false, apart := false }
def RankEverySaid : Prop := rankEveryRow.holds Try.pinned (OpenSpec.ofChange rankEverySpec)

/-- ITS FALSE NEIGHBOUR: 'it returns false'. Refute it at one input. -/
def rankEveryWrong : ChangeSpec := { name := "rankEvery", fn := fun _ => fun
  | [d1, d2, d3] => { results := [.lit (.bool false)], args := [d1, d2, d3] }
  | _ => none }
def RankEveryWrongFalsely : Prop := rankEveryRow.holds Try.pinned (OpenSpec.ofChange rankEveryWrong)

/-- 'dutykeep.ReplyExact': WHATEVER THE INPUT: true; the input reads as it did. -/
def replyExactSpec : ChangeSpec := { name := "replyExact", fn := fun _ => fun
  | [d1, d2] => { results := [.lit (.bool true)], args := [d1, d2] }
  | _ => none }
def replyExactRow : OpenClaim := { program := "ytabchkekhpmpiaa", sum := "7fcb8fd657f4172be9bbe4d2fb74acad7eef9a4e311cb7d8be349bb67fa871b9", func := "dutyroster/dutykeep.ReplyExact", spec := "replyExact", unfollowed := true, recurses := true, plainKeys := false, apart := false }
def ReplyExactSaid : Prop := replyExactRow.holds Try.pinned (OpenSpec.ofChange replyExactSpec)

/-- ITS FALSE NEIGHBOUR: 'it returns false'. Refute it at one input. -/
def replyExactWrong : ChangeSpec := { name := "replyExact", fn := fun _ => fun
  | [d1, d2] => { results := [.lit (.bool false)], args := [d1, d2] }
  | _ => none }
def ReplyExactWrongFalsely : Prop := replyExactRow.holds Try.pinned (OpenSpec.ofChange replyExactWrong)

/-- 'dutykeep.TaskRound': WHATEVER THE INPUT: true; the input reads as it did. -/
def taskRoundSpec : ChangeSpec := { name := "taskRound", fn := fun _ => fun
  | [d1, d2] => { results := [.lit (.bool true)], args := [d1, d2] }
  | _ => none }
def taskRoundRow : OpenClaim := { program := "ytabchkekhpmpiaa", sum := "7fcb8fd657f4172be9bbe4d2fb74acad7eef9a4e311cb7d8be349bb67fa871b9", func := "dutyroster/dutykeep.TaskRound", spec := "taskRound", recurses := true, plainKeys := false, apart := false }
def TaskRoundSaid : Prop := taskRoundRow.holds Try.pinned (OpenSpec.ofChange taskRoundSpec)

/-- ITS FALSE NEIGHBOUR: 'it returns false'. Refute it at one input. -/
def taskRoundWrong : ChangeSpec := { name := "taskRound", fn := fun _ => fun
  | [d1, d2] => { results := [.lit (.bool false)], args := [d1, d2] }
  | _ => none }
def TaskRoundWrongFalsely : Prop := taskRoundRow.holds Try.pinned (OpenSpec.ofChange taskRoundWrong)

/-- 'dutykeep.TaskFit': WHATEVER THE INPUT: true; the input reads as it did. -/
def taskFitSpec : ChangeSpec := { name := "taskFit", fn := fun _ => fun
  | [d1, d2, d3] => { results := [.lit (.bool true)], args := [d1, d2, d3] }
  | _ => none }
def taskFitRow : OpenClaim := { program := "ytabchkekhpmpiaa", sum := "7fcb8fd657f4172be9bbe4d2fb74acad7eef9a4e311cb7d8be349bb67fa871b9", func := "dutyroster/dutykeep.TaskFit", spec := "taskFit", unfollowed := true, recurses := true, plainKeys := false, apart := false }
def TaskFitSaid : Prop := taskFitRow.holds Try.pinned (OpenSpec.ofChange taskFitSpec)

/-- ITS FALSE NEIGHBOUR: 'it returns false'. Refute it at one input. -/
def taskFitWrong : ChangeSpec := { name := "taskFit", fn := fun _ => fun
  | [d1, d2, d3] => { results := [.lit (.bool false)], args := [d1, d2, d3] }
  | _ => none }
def TaskFitWrongFalsely : Prop := taskFitRow.holds Try.pinned (OpenSpec.ofChange taskFitWrong)

/-- 'dutykeep.ReplyHolds': WHATEVER THE INPUT: true; the input reads as it did. -/
def replyHoldsSpec : ChangeSpec := { name := "replyHolds", fn := fun _ => fun
  | [d1, d2, d3, d4] => { results := [.lit (.bool true)], args := [d1, d2, d3, d4] }
  | _ => none }
def replyHoldsRow : OpenClaim := { program := "ytabchkekhpmpiaa", sum := "7fcb8fd657f4172be9bbe4d2fb74acad7eef9a4e311cb7d8be349bb67fa871b9", func := "dutyroster/dutykeep.ReplyHolds", spec := "replyHolds", unfollowed := true, recurses := true, plainKeys := false, apart := false }
def ReplyHoldsSaid : Prop := replyHoldsRow.holds Try.pinned (OpenSpec.ofChange replyHoldsSpec)

/-- ITS FALSE NEIGHBOUR: 'it returns false'. Refute it at one input. -/
def replyHoldsWrong : ChangeSpec := { name := "replyHolds", fn := fun _ => fun
  | [d1, d2, d3, d4] => { results := [.lit (.bool false)], args := [d1, d2, d3, d4] }
  | _ => none }
def ReplyHoldsWrongFalsely : Prop := replyHoldsRow.holds Try.pinned (OpenSpec.ofChange replyHoldsWrong)

/-- 'dutykeep.TaskWhole': WHATEVER THE INPUT: true; the input reads as it did. -/
def taskWholeSpec : ChangeSpec := { name := "taskWhole", fn := fun _ => fun
  | [d1, d2] => { results := [.lit (.bool true)], args := [d1, d2] }
  | _ => none }
def taskWholeRow : OpenClaim := { program := "ytabchkekhpmpiaa", sum := "7fcb8fd657f4172be9bbe4d2fb74acad7eef9a4e311cb7d8be349bb67fa871b9", func := "dutyroster/dutykeep.TaskWhole", spec := "taskWhole", recurses := true, plainKeys := false, apart := false }
def TaskWholeSaid : Prop := taskWholeRow.holds Try.pinned (OpenSpec.ofChange taskWholeSpec)

/-- ITS FALSE NEIGHBOUR: 'it returns false'. Refute it at one input. -/
def taskWholeWrong : ChangeSpec := { name := "taskWhole", fn := fun _ => fun
  | [d1, d2] => { results := [.lit (.bool false)], args := [d1, d2] }
  | _ => none }
def TaskWholeWrongFalsely : Prop := taskWholeRow.holds Try.pinned (OpenSpec.ofChange taskWholeWrong)

/-- 'dutykeep.TaskDemand': WHATEVER THE INPUT: true; the input reads as it did. -/
def taskDemandSpec : ChangeSpec := { name := "taskDemand", fn := fun _ => fun
  | [d1, d2, d3, d4] => { results := [.lit (.bool true)], args := [d1, d2, d3, d4] }
  | _ => none }
def taskDemandRow : OpenClaim := { program := "ytabchkekhpmpiaa", sum := "7fcb8fd657f4172be9bbe4d2fb74acad7eef9a4e311cb7d8be349bb67fa871b9", func := "dutyroster/dutykeep.TaskDemand", spec := "taskDemand", recurses := true, plainKeys := false, apart := false }
def TaskDemandSaid : Prop := taskDemandRow.holds Try.pinned (OpenSpec.ofChange taskDemandSpec)

/-- ITS FALSE NEIGHBOUR: 'it returns false'. Refute it at one input. -/
def taskDemandWrong : ChangeSpec := { name := "taskDemand", fn := fun _ => fun
  | [d1, d2, d3, d4] => { results := [.lit (.bool false)], args := [d1, d2, d3, d4] }
  | _ => none }
def TaskDemandWrongFalsely : Prop := taskDemandRow.holds Try.pinned (OpenSpec.ofChange taskDemandWrong)

/-- 'dutykeep.ReplyFits': WHATEVER THE INPUT: true; the input reads as it did. -/
def replyFitsSpec : ChangeSpec := { name := "replyFits", fn := fun _ => fun
  | [d1, d2, d3, d4] => { results := [.lit (.bool true)], args := [d1, d2, d3, d4] }
  | _ => none }
def replyFitsRow : OpenClaim := { program := "ytabchkekhpmpiaa", sum := "7fcb8fd657f4172be9bbe4d2fb74acad7eef9a4e311cb7d8be349bb67fa871b9", func := "dutyroster/dutykeep.ReplyFits", spec := "replyFits", unfollowed := true, recurses := true, plainKeys := false, apart := false }
def ReplyFitsSaid : Prop := replyFitsRow.holds Try.pinned (OpenSpec.ofChange replyFitsSpec)

/-- ITS FALSE NEIGHBOUR: 'it returns false'. Refute it at one input. -/
def replyFitsWrong : ChangeSpec := { name := "replyFits", fn := fun _ => fun
  | [d1, d2, d3, d4] => { results := [.lit (.bool false)], args := [d1, d2, d3, d4] }
  | _ => none }
def ReplyFitsWrongFalsely : Prop := replyFitsRow.holds Try.pinned (OpenSpec.ofChange replyFitsWrong)

/-- 'dutykeep.TaskLess': WHATEVER THE INPUT: true; the input reads as it did. -/
def taskLessSpec : ChangeSpec := { name := "taskLess", fn := fun _ => fun
  | [d1, d2, d3, d4, d5] => { results := [.lit (.bool true)], args := [d1, d2, d3, d4, d5] }
  | _ => none }
def taskLessRow : OpenClaim := { program := "ytabchkekhpmpiaa", sum := "7fcb8fd657f4172be9bbe4d2fb74acad7eef9a4e311cb7d8be349bb67fa871b9", func := "dutyroster/dutykeep.TaskLess", spec := "taskLess", recurses := true, plainKeys := false, apart := false }
def TaskLessSaid : Prop := taskLessRow.holds Try.pinned (OpenSpec.ofChange taskLessSpec)

/-- ITS FALSE NEIGHBOUR: 'it returns false'. Refute it at one input. -/
def taskLessWrong : ChangeSpec := { name := "taskLess", fn := fun _ => fun
  | [d1, d2, d3, d4, d5] => { results := [.lit (.bool false)], args := [d1, d2, d3, d4, d5] }
  | _ => none }
def TaskLessWrongFalsely : Prop := taskLessRow.holds Try.pinned (OpenSpec.ofChange taskLessWrong)

/- THE SECOND FORM. 'bulk': how many values and letters a reading holds, each counted each time it is reached (what is shared counts as often as it is met; a slice's spare places count too). A statement '..UptoSaid' is the law's where the arguments, and the package variables that the reading takes, are together of bulk at most 1048576: NARROWER than '..Said'. Prove '..Said' where nothing that the law and all that it calls make is longer than what came in: it says more and counts as full. Else prove '..UptoSaid'. A law counts once. -/
mutual
def uptoBulk {H : Type} : DataW H → Nat
  | .lit (.string bytes) => bytes.length + 1
  | .lit _ => 1
  | .nil => 1
  | .ptr d => uptoBulk d + 1
  | .slice elems spare => uptoBulkAll elems + uptoBulkAll spare + 1
  | .agg parts => uptoBulkAll parts + 1
  | .iface _ d => uptoBulk d + 1
  | .map entries => uptoBulkEntries entries + 1
  | .held _ => 1
def uptoBulkAll {H : Type} : List (DataW H) → Nat
  | [] => 0
  | d :: r => uptoBulk d + uptoBulkAll r
def uptoBulkEntries {H : Type} : List (Lit × DataW H) → Nat
  | [] => 0
  | x :: r => uptoBulkEntry x + uptoBulkEntries r
def uptoBulkEntry {H : Type} : Lit × DataW H → Nat
  | (.string bytes, d) => bytes.length + uptoBulk d + 1
  | (_, d) => uptoBulk d + 1
 end
def uptoSmall : (H : Type) → List (DataW H) → Bool := fun _ ds => decide (uptoBulkAll ds ≤ 1048576)
def OpenSpec.upto (s : _root_.Go.ChangeSpec) : _root_.Go.OpenSpec := { _root_.Go.OpenSpec.ofChange s with cond := some uptoSmall }

/-- 'dutykeep.ReplyAhead', WHERE WHAT IT READS IS OF BULK AT MOST 1048576: true; the input reads as it did. -/
def replyAheadUptoRow : OpenClaim := { program := "ytabchkekhpmpiaa", sum := "7fcb8fd657f4172be9bbe4d2fb74acad7eef9a4e311cb7d8be349bb67fa871b9", func := "dutyroster/dutykeep.ReplyAhead", spec := "replyAhead", unfollowed := true, recurses := true, plainKeys := false, apart := false, narrowed := true }
def ReplyAheadUptoSaid : Prop := replyAheadUptoRow.holds Try.pinned (OpenSpec.upto replyAheadSpec)

/-- 'dutykeep.RankOrder', WHERE WHAT IT READS IS OF BULK AT MOST 1048576: true; the input reads as it did. -/
def rankOrderUptoRow : OpenClaim := { program := "ytabchkekhpmpiaa", sum := "7fcb8fd657f4172be9bbe4d2fb74acad7eef9a4e311cb7d8be349bb67fa871b9", func := "dutyroster/dutykeep.RankOrder", spec := "rankOrder", unfollowed := true, recurses := true, plainKeys := false, apart := false, narrowed := true }
def RankOrderUptoSaid : Prop := rankOrderUptoRow.holds Try.pinned (OpenSpec.upto rankOrderSpec)

/-- 'dutykeep.RankAudsley', WHERE WHAT IT READS IS OF BULK AT MOST 1048576: true; the input reads as it did. -/
def rankAudsleyUptoRow : OpenClaim := { program := "ytabchkekhpmpiaa", sum := "7fcb8fd657f4172be9bbe4d2fb74acad7eef9a4e311cb7d8be349bb67fa871b9", func := "dutyroster/dutykeep.RankAudsley", spec := "rankAudsley", unfollowed := true, recurses := true, plainKeys := false, apart := false, narrowed := true }
def RankAudsleyUptoSaid : Prop := rankAudsleyUptoRow.holds Try.pinned (OpenSpec.upto rankAudsleySpec)

/-- 'dutykeep.RankDue', WHERE WHAT IT READS IS OF BULK AT MOST 1048576: true; the input reads as it did. -/
def rankDueUptoRow : OpenClaim := { program := "ytabchkekhpmpiaa", sum := "7fcb8fd657f4172be9bbe4d2fb74acad7eef9a4e311cb7d8be349bb67fa871b9", func := "dutyroster/dutykeep.RankDue", spec := "rankDue", unfollowed := true, recurses := true, plainKeys := false, apart := false, narrowed := true }
def RankDueUptoSaid : Prop := rankDueUptoRow.holds Try.pinned (OpenSpec.upto rankDueSpec)

/-- 'dutykeep.RankEvery', WHERE WHAT IT READS IS OF BULK AT MOST 1048576: true; the input reads as it did. -/
def rankEveryUptoRow : OpenClaim := { program := "ytabchkekhpmpiaa", sum := "7fcb8fd657f4172be9bbe4d2fb74acad7eef9a4e311cb7d8be349bb67fa871b9", func := "dutyroster/dutykeep.RankEvery", spec := "rankEvery", unfollowed := true, recurses := true, plainKeys := false, apart := false, narrowed := true }
def RankEveryUptoSaid : Prop := rankEveryUptoRow.holds Try.pinned (OpenSpec.upto rankEverySpec)

/-- 'dutykeep.ReplyExact', WHERE WHAT IT READS IS OF BULK AT MOST 1048576: true; the input reads as it did. -/
def replyExactUptoRow : OpenClaim := { program := "ytabchkekhpmpiaa", sum := "7fcb8fd657f4172be9bbe4d2fb74acad7eef9a4e311cb7d8be349bb67fa871b9", func := "dutyroster/dutykeep.ReplyExact", spec := "replyExact", unfollowed := true, recurses := true, plainKeys := false, apart := false, narrowed := true }
def ReplyExactUptoSaid : Prop := replyExactUptoRow.holds Try.pinned (OpenSpec.upto replyExactSpec)

/-- 'dutykeep.TaskRound', WHERE WHAT IT READS IS OF BULK AT MOST 1048576: true; the input reads as it did. -/
def taskRoundUptoRow : OpenClaim := { program := "ytabchkekhpmpiaa", sum := "7fcb8fd657f4172be9bbe4d2fb74acad7eef9a4e311cb7d8be349bb67fa871b9", func := "dutyroster/dutykeep.TaskRound", spec := "taskRound", recurses := true, plainKeys := false, apart := false, narrowed := true }
def TaskRoundUptoSaid : Prop := taskRoundUptoRow.holds Try.pinned (OpenSpec.upto taskRoundSpec)

/-- 'dutykeep.TaskFit', WHERE WHAT IT READS IS OF BULK AT MOST 1048576: true; the input reads as it did. -/
def taskFitUptoRow : OpenClaim := { program := "ytabchkekhpmpiaa", sum := "7fcb8fd657f4172be9bbe4d2fb74acad7eef9a4e311cb7d8be349bb67fa871b9", func := "dutyroster/dutykeep.TaskFit", spec := "taskFit", unfollowed := true, recurses := true, plainKeys := false, apart := false, narrowed := true }
def TaskFitUptoSaid : Prop := taskFitUptoRow.holds Try.pinned (OpenSpec.upto taskFitSpec)

/-- 'dutykeep.ReplyHolds', WHERE WHAT IT READS IS OF BULK AT MOST 1048576: true; the input reads as it did. -/
def replyHoldsUptoRow : OpenClaim := { program := "ytabchkekhpmpiaa", sum := "7fcb8fd657f4172be9bbe4d2fb74acad7eef9a4e311cb7d8be349bb67fa871b9", func := "dutyroster/dutykeep.ReplyHolds", spec := "replyHolds", unfollowed := true, recurses := true, plainKeys := false, apart := false, narrowed := true }
def ReplyHoldsUptoSaid : Prop := replyHoldsUptoRow.holds Try.pinned (OpenSpec.upto replyHoldsSpec)

/-- 'dutykeep.TaskWhole', WHERE WHAT IT READS IS OF BULK AT MOST 1048576: true; the input reads as it did. -/
def taskWholeUptoRow : OpenClaim := { program := "ytabchkekhpmpiaa", sum := "7fcb8fd657f4172be9bbe4d2fb74acad7eef9a4e311cb7d8be349bb67fa871b9", func := "dutyroster/dutykeep.TaskWhole", spec := "taskWhole", recurses := true, plainKeys := false, apart := false, narrowed := true }
def TaskWholeUptoSaid : Prop := taskWholeUptoRow.holds Try.pinned (OpenSpec.upto taskWholeSpec)

/-- 'dutykeep.TaskDemand', WHERE WHAT IT READS IS OF BULK AT MOST 1048576: true; the input reads as it did. -/
def taskDemandUptoRow : OpenClaim := { program := "ytabchkekhpmpiaa", sum := "7fcb8fd657f4172be9bbe4d2fb74acad7eef9a4e311cb7d8be349bb67fa871b9", func := "dutyroster/dutykeep.TaskDemand", spec := "taskDemand", recurses := true, plainKeys := false, apart := false, narrowed := true }
def TaskDemandUptoSaid : Prop := taskDemandUptoRow.holds Try.pinned (OpenSpec.upto taskDemandSpec)

/-- 'dutykeep.ReplyFits', WHERE WHAT IT READS IS OF BULK AT MOST 1048576: true; the input reads as it did. -/
def replyFitsUptoRow : OpenClaim := { program := "ytabchkekhpmpiaa", sum := "7fcb8fd657f4172be9bbe4d2fb74acad7eef9a4e311cb7d8be349bb67fa871b9", func := "dutyroster/dutykeep.ReplyFits", spec := "replyFits", unfollowed := true, recurses := true, plainKeys := false, apart := false, narrowed := true }
def ReplyFitsUptoSaid : Prop := replyFitsUptoRow.holds Try.pinned (OpenSpec.upto replyFitsSpec)

/-- 'dutykeep.TaskLess', WHERE WHAT IT READS IS OF BULK AT MOST 1048576: true; the input reads as it did. -/
def taskLessUptoRow : OpenClaim := { program := "ytabchkekhpmpiaa", sum := "7fcb8fd657f4172be9bbe4d2fb74acad7eef9a4e311cb7d8be349bb67fa871b9", func := "dutyroster/dutykeep.TaskLess", spec := "taskLess", recurses := true, plainKeys := false, apart := false, narrowed := true }
def TaskLessUptoSaid : Prop := taskLessUptoRow.holds Try.pinned (OpenSpec.upto taskLessSpec)

end Rows
end Go.Proofs.Ytabchkekhpmpiaa
