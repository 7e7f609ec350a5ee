/- Locks, plain: what a house of workers does. -/
import Derived.Test.YthbdlihmafcioaaLockP
set_option linter.all false
namespace Go.Proofs.Ythbdlihmafcioaa
open Go Go.Abs

structure Wk where
  at_ : Nat
  ran : Int
  h : List Int
def wk0 : Wk := ⟨0, 0, []⟩
def freeR (i : Int) (tk : Bool) : List Act → Nat → List Int → List Int → Bool × Nat × List Int × List Int
  | [], p, h, o => (true, p, h, o)
  | a :: r, p, h, o =>
    if a.kind = 3 then freeR i tk r (p + 1) (h.take (h.length - 1)) (o.set a.n.toNat 0)
    else if a.kind = 1 ∨ tk = false then (true, p, h, o)
    else if 0 < o.getD a.n.toNat 0 then (false, p, h, o)
    else freeR i tk r (p + 1) (h ++ [a.n]) (o.set a.n.toNat (i + 1))
def urgR (cl : List Int) : Int → List Int → Int
  | u, [] => u
  | u, n :: r => urgR cl (min u (cl.getD n.toNat 0)) r
structure WkOk (w : Work) (x : Wk) : Prop where
  hl : w.acts.length ≤ 30
  ha : x.at_ ≤ w.acts.length
  hh : x.h.length ≤ x.at_
  hr : ∃ runs, rgtR x.h runs (w.acts.drop x.at_) = true
  hn : ∀ n ∈ x.h, 0 ≤ n ∧ n < 8
theorem rgt_drop {a : Act} {r : List Act} {h : List Int} {runs : Bool} (hk : a.kind = 3) (hr : rgtR h runs (a :: r) = true) : 0 < h.length ∧ h.getD (h.length - 1) 0 = a.n ∧ rgtR (h.take (h.length - 1)) runs r = true := by
  rw [rgtR, if_neg (by omega), if_neg (by omega), if_pos hk] at hr
  split at hr
  · cases hr
  · rename_i q
    refine ⟨?_, ?_, hr⟩
    · rcases Nat.eq_zero_or_pos h.length with h0 | h0
      · exact absurd (.inl h0) q
      · exact h0
    · exact Classical.byContradiction fun h1 => q (.inr h1)
theorem rgt_take {a : Act} {r : List Act} {h : List Int} {runs : Bool} (hk : a.kind = 2) (hr : rgtR h runs (a :: r) = true) : 0 ≤ a.n ∧ a.n < 8 ∧ rgtR (h ++ [a.n]) false r = true := by
  rw [rgtR, if_neg (by omega), if_pos hk] at hr
  split at hr
  · cases hr
  · rename_i q
    exact ⟨by omega, by omega, hr⟩
theorem rgt_run {a : Act} {r : List Act} {h : List Int} {runs : Bool} (hk : a.kind = 1) (hr : rgtR h runs (a :: r) = true) : 1 ≤ a.n ∧ a.n ≤ 100 ∧ rgtR h true r = true := by
  rw [rgtR, if_pos hk] at hr
  split at hr
  · cases hr
  · exact ⟨by omega, by omega, hr⟩
theorem rgt_kind {a : Act} {r : List Act} {h : List Int} {runs : Bool} (hr : rgtR h runs (a :: r) = true) : a.kind = 1 ∨ a.kind = 2 ∨ a.kind = 3 := by
  by_cases h1 : a.kind = 1
  · exact .inl h1
  by_cases h2 : a.kind = 2
  · exact .inr (.inl h2)
  by_cases h3 : a.kind = 3
  · exact .inr (.inr h3)
  rw [rgtR, if_neg h1, if_neg h2, if_neg h3] at hr
  cases hr
def nextR (l : List Work) (ws : List Wk) (cl : List Int) (t : Int) : Nat → Nat → Int → Int
  | 0, _, b => b
  | n + 1, i, b => nextR l ws cl t n (i + 1) (if (l.getD i Dat.d0).came ≤ t ∧ (ws.getD i wk0).at_ < (l.getD i Dat.d0).acts.length ∧ (b < 0 ∨ urgR cl i (ws.getD i wk0).h ≤ urgR cl b (ws.getD b.toNat wk0).h) then (i : Int) else b)

end Go.Proofs.Ythbdlihmafcioaa
