/- Parts, plain: what a module is, a tick, a run. -/
import Derived.Test.YtbnpacdkllmblaaPTab
import Derived.Test.YtbnpacdkllmblaaVmQ
set_option linter.all false
namespace Go.Proofs.Ytbnpacdkllmblaa
open Go Go.Abs

def wideB (l : List Int) : Bool := l.any fun n => !numB n
def prtV (p : Part) : Int := if ¬ checkP p.code = 0 then checkP p.code else if ¬ rightV p.vm = 0 then rightV p.vm else if p.code.length < p.vm.at_ then 4 else if 50 < p.box.length then 2 else if wideB p.box = true then 4 else 0
def prtsV : List Part → Int
  | [] => 0
  | p :: r => if prtV p = 0 then prtsV r else prtV p
def wirB (n : Nat) (w : Wire) : Bool := decide (0 ≤ w.frm ∧ w.frm < n ∧ 0 ≤ w.to ∧ w.to < n ∧ 0 ≤ w.port ∧ w.port < 4)
def partB (m : Module) (i : Int) : Bool := decide (0 ≤ i ∧ i < m.parts.length)
def numM (n : Int) : Bool := decide (0 ≤ n ∧ n ≤ 1099511627776)
def mchkV (m : Module) : Int := if ¬ wchkV m.table = 0 then wchkV m.table else if 16 < m.parts.length ∨ 32 < m.wires.length then 2 else if ¬ prtsV m.parts = 0 then prtsV m.parts else
  if m.wires.all (wirB m.parts.length) = false then 4 else if numM m.now = false ∨ numM m.lost = false then 4 else 0
theorem prts_iff : ∀ {l : List Part}, prtsV l = 0 ↔ ∀ p ∈ l, prtV p = 0
  | [] => by simp [prtsV]
  | p :: r => by
    rw [prtsV]
    by_cases h : prtV p = 0
    · rw [if_pos h, prts_iff]; simp [h]
    · rw [if_neg h]; simp [h]
structure MOk (m : Module) : Prop where
  t : wchkV m.table = 0
  lp : m.parts.length ≤ 16
  lw : m.wires.length ≤ 32
  p : ∀ p ∈ m.parts, prtV p = 0
  w : ∀ w ∈ m.wires, wirB m.parts.length w = true
  now : 0 ≤ m.now ∧ m.now ≤ 1099511627776
  lost : 0 ≤ m.lost ∧ m.lost ≤ 1099511627776
theorem mchk_iff {m : Module} : mchkV m = 0 ↔ MOk m := by
  unfold mchkV
  by_cases h1 : wchkV m.table = 0
  · rw [if_neg (by omega)]
    by_cases h2 : 16 < m.parts.length ∨ 32 < m.wires.length
    · rw [if_pos h2]; exact ⟨fun h => (by cases h), fun h => by have := h.lp; have := h.lw; omega⟩
    · rw [if_neg h2]
      by_cases h3 : prtsV m.parts = 0
      · rw [if_neg (by omega)]
        by_cases h4 : m.wires.all (wirB m.parts.length) = false
        · rw [if_pos h4]
          refine ⟨fun h => (by cases h), fun h => ?_⟩
          rw [List.all_eq_true.2 h.w] at h4; cases h4
        · rw [if_neg h4]
          have h4 : m.wires.all (wirB m.parts.length) = true := by simpa using h4
          by_cases h5 : numM m.now = false ∨ numM m.lost = false
          · rw [if_pos h5]
            refine ⟨fun h => (by cases h), fun h => ?_⟩
            rcases h5 with h5 | h5
            · have := of_decide_eq_false h5; exact absurd h.now this
            · have := of_decide_eq_false h5; exact absurd h.lost this
          · rw [if_neg h5]
            refine ⟨fun _ => ⟨h1, by omega, by omega, prts_iff.1 h3, List.all_eq_true.1 h4, ?_, ?_⟩, fun _ => rfl⟩
            · exact of_decide_eq_true (by rcases hb : numM m.now with _ | _; exact absurd (.inl hb) h5; exact hb)
            · exact of_decide_eq_true (by rcases hb : numM m.lost with _ | _; exact absurd (.inr hb) h5; exact hb)
      · rw [if_pos h3]; exact ⟨fun h => absurd h h3, fun h => absurd (prts_iff.2 h.p) h3⟩
  · rw [if_pos h1]; exact ⟨fun h => absurd h h1, fun h => absurd h.t h1⟩
structure POk (p : Part) : Prop where
  c : checkP p.code = 0
  v : rightV p.vm = 0
  a : p.vm.at_ ≤ p.code.length
  l : p.box.length ≤ 50
  n : allN p.box
theorem prt_iff {p : Part} : prtV p = 0 ↔ POk p := by
  unfold prtV
  by_cases h1 : checkP p.code = 0
  · rw [if_neg (by omega)]
    by_cases h2 : rightV p.vm = 0
    · rw [if_neg (by omega)]
      by_cases h3 : p.code.length < p.vm.at_
      · rw [if_pos h3]; exact ⟨fun h => (by cases h), fun h => by have := h.a; omega⟩
      · rw [if_neg h3]
        by_cases h4 : 50 < p.box.length
        · rw [if_pos h4]; exact ⟨fun h => (by cases h), fun h => by have := h.l; omega⟩
        · rw [if_neg h4]
          by_cases h5 : wideB p.box = true
          · rw [if_pos h5]
            refine ⟨fun h => (by cases h), fun h => ?_⟩
            have := allN_iff.2 h.n
            unfold wideB at h5
            rw [this] at h5; cases h5
          · rw [if_neg h5]
            exact ⟨fun _ => ⟨h1, h2, by omega, by omega, allN_iff.1 (by unfold wideB at h5; simpa using h5)⟩, fun _ => rfl⟩
    · rw [if_pos h2]; exact ⟨fun h => absurd h h2, fun h => absurd h.v h2⟩
  · rw [if_pos h1]; exact ⟨fun h => absurd h h1, fun h => absurd h.c h1⟩
def sendB (m : Module) (w : Wire) (n : Int) : Module :=
  if (m.parts.getD w.to.toNat Dat.d0).box.length < 50 then ⟨m.table, m.parts.set w.to.toNat ⟨(m.parts.getD w.to.toNat Dat.d0).code, (m.parts.getD w.to.toNat Dat.d0).vm, (m.parts.getD w.to.toNat Dat.d0).box ++ [n]⟩, m.wires, m.now, m.lost⟩
  else ⟨m.table, m.parts, m.wires, m.now, m.lost + 1⟩
def sendW (i : Int) (x : Emit) : List Wire → Module → Module
  | [], m => m
  | w :: r, m => sendW i x r (if w.frm = i ∧ w.port = x.port then sendB m w x.n else m)
def sendsV (i : Int) : List Emit → Module → Module
  | [], m => m
  | x :: r, m => sendsV i r (sendW i x m.wires m)
def ranP (p : Part) : Part := ⟨p.code, (runV p.code p.vm p.box 1).1, p.box.drop (runV p.code p.vm p.box 1).2.2.1.toNat⟩
def outP (p : Part) : List Emit := (runV p.code p.vm p.box 1).2.1
def tickV (m : Module) : Module × Int :=
  if m.now = 1099511627776 ∨ 1099511627744 < m.lost then (m, 6) else
  if partB m (ownerV m.table m.now).1 = false then (⟨m.table, m.parts, m.wires, m.now + 1, m.lost⟩, 0) else
  (sendsV (ownerV m.table m.now).1 (outP (m.parts.getD (ownerV m.table m.now).1.toNat Dat.d0)) ⟨m.table, m.parts.set (ownerV m.table m.now).1.toNat (ranP (m.parts.getD (ownerV m.table m.now).1.toNat Dat.d0)), m.wires, m.now + 1, m.lost⟩, 0)
def zM : Module := ⟨⟨0, []⟩, [], [], 0, 0⟩
def ticksV : Nat → Module → Module × Int
  | 0, m => (m, 0)
  | n + 1, m => if (tickV m).2 = 0 then ticksV n (tickV m).1 else (zM, (tickV m).2)
def runPV (m : Module) (n : Int) : Module × Int := if ¬ mchkV m = 0 then (zM, mchkV m) else if n < 0 ∨ 5000 < n then (zM, 1) else ticksV n.toNat m
def putV (m : Module) (i : Int) (l : List Int) : Module × Int :=
  if ¬ mchkV m = 0 then (zM, mchkV m) else if partB m i = false then (zM, 7) else if wideB l = true then (zM, 4) else if 50 - (m.parts.getD i.toNat Dat.d0).box.length < l.length then (zM, 6) else
  (⟨m.table, m.parts.set i.toNat ⟨(m.parts.getD i.toNat Dat.d0).code, (m.parts.getD i.toNat Dat.d0).vm, (m.parts.getD i.toNat Dat.d0).box ++ l⟩, m.wires, m.now, m.lost⟩, 0)

end Go.Proofs.Ytbnpacdkllmblaa
