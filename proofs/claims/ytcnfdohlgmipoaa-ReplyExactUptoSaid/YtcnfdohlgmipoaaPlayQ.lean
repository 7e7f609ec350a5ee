/- What play.Play does: plain. -/
import Derived.Test.YtcnfdohlgmipoaaJobs
import Derived.Test.YtcnfdohlgmipoaaHas
import Derived.Test.YtcnfdohlgmipoaaStJP
set_option linter.all false
namespace Go.Proofs.Ytcnfdohlgmipoaa
open Go Go.Abs

def keyLt (fx : Bool) (a b : job) : Prop := (fx = false ∧ a.due < b.due) ∨ ((fx = true ∨ a.due = b.due) ∧ (a.done.task < b.done.task ∨ (a.done.task = b.done.task ∧ a.done.job < b.done.job)))
instance (fx : Bool) (a b : job) : Decidable (keyLt fx a b) := by unfold keyLt; infer_instance
def insQ (fx : Bool) (x : job) : List job → List job
  | [] => [x]
  | y :: r => if keyLt fx x y then x :: y :: r else y :: insQ fx x r
def pullQ (fx : Bool) (t : Int) : List job → List job → List job × List job
  | [], q => ([], q)
  | x :: r, q => if x.done.came ≤ t then pullQ fx t r (insQ fx x q) else (x :: r, q)
def tickQ (s : Set) (t : Int) : List job × List Done × Int → List job × List Done × Int
  | (q, out, idle) => if (hasV s t).1 = true then (match q with
    | [] => ([], out, idle + 1)
    | j :: r => if j.left - 1 = 0 then (r, out ++ [⟨j.done.task, j.done.job, j.done.came, t + 1⟩], idle) else (⟨j.done, j.due, j.left - 1⟩ :: r, out, idle)) else (q, out, idle)
def playR (fx : Bool) (s : Set) : Nat → Int → List job → List job × List Done × Int → List Done × Int
  | 0, _, _, (_, out, idle) => (out, idle)
  | n + 1, t, td, (q, out, idle) => playR fx s n (t + 1) (pullQ fx t td q).1 (tickQ s t ((pullQ fx t td q).2, out, idle))
def playJ (l : List Task) (s : Set) (first : List Int) (policy until_ : Int) : List Done × Int × Int :=
  if ¬ tchkV l = 0 then ([], 0, tchkV l) else if ¬ checkV s = 0 then ([], 0, checkV s) else if ¬ firstsV l first = 0 then ([], 0, firstsV l first) else
  if (¬ policy = 1 ∧ ¬ policy = 2) ∨ until_ < 0 ∨ 20000 < until_ then ([], 0, 1) else if ¬ (jobsV l first until_).2 = 0 then ([], 0, (jobsV l first until_).2) else
  ((playR (decide (policy = 2)) s until_.toNat 0 (sortS (jobsV l first until_).1) ([], [], 0)).1, (playR (decide (policy = 2)) s until_.toNat 0 (sortS (jobsV l first until_).1) ([], [], 0)).2, 0)

end Go.Proofs.Ytcnfdohlgmipoaa
