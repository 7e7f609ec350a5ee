/- Who feeds whom: plain. -/
import Derived.Test.YtbnpacdkllmblaaPartY
set_option linter.all false
namespace Go.Proofs.Ytbnpacdkllmblaa
open Go Go.Abs

def hitW (out : List Bool) : List Wire → Option Nat
  | [] => none
  | w :: r => if out.getD w.to.toNat Dat.d0 = true ∧ out.getD w.frm.toNat Dat.d0 = false then some w.frm.toNat else hitW out r
def feedN (ws : List Wire) : Nat → List Bool → List Bool
  | 0, out => out
  | f + 1, out => match hitW out ws with
    | some k => feedN ws f (out.set k true)
    | none => out
def feed0 (n : Nat) (i : Int) : List Bool := (List.replicate n false).set i.toNat true
def feedsV (m : Module) (i : Int) : List Bool × Int :=
  if ¬ mchkV m = 0 then ([], mchkV m) else if partB m i = false then ([], 7) else (feedN m.wires m.parts.length (feed0 m.parts.length i), 0)
def cntF : List Bool → Nat
  | [] => 0
  | b :: r => (if b = false then 1 else 0) + cntF r
theorem cntF_le : ∀ l : List Bool, cntF l ≤ l.length
  | [] => Nat.le_refl _
  | b :: r => by have := cntF_le r; rw [cntF, List.length_cons]; split <;> omega
theorem cntF_set : ∀ {l : List Bool} {k : Nat}, k < l.length → l.getD k Dat.d0 = false → cntF (l.set k true) + 1 = cntF l
  | b :: r, 0, _, h => by
    have h : b = false := h
    rw [List.set_cons_zero, cntF, cntF, h, if_neg (by decide), if_pos rfl]; omega
  | b :: r, k + 1, hk, h => by
    have := cntF_set (l := r) (k := k) (by simpa using hk) h
    rw [List.set_cons_succ, cntF, cntF]; omega
theorem hit_some {out : List Bool} : ∀ {ws : List Wire} {k : Nat}, hitW out ws = some k → ∃ w ∈ ws, out.getD w.to.toNat Dat.d0 = true ∧ out.getD w.frm.toNat Dat.d0 = false ∧ k = w.frm.toNat
  | w :: r, k, h => by
    rw [hitW] at h
    split at h
    · rename_i q
      exact ⟨w, List.mem_cons_self, q.1, q.2, by simpa using h.symm⟩
    · obtain ⟨v, hv, h2⟩ := hit_some h
      exact ⟨v, List.mem_cons_of_mem _ hv, h2⟩
theorem hit_none {out : List Bool} : ∀ {ws : List Wire}, hitW out ws = none → ∀ w ∈ ws, out.getD w.to.toNat Dat.d0 = true → out.getD w.frm.toNat Dat.d0 = true
  | w :: r, h, v, hv, h2 => by
    rw [hitW] at h
    split at h
    · cases h
    · rename_i q
      rcases List.mem_cons.1 hv with rfl | hv
      · cases h3 : out.getD v.frm.toNat Dat.d0 with
        | true => rfl
        | false => exact absurd ⟨h2, h3⟩ q
      · exact hit_none h v hv h2
theorem feedN_len {ws : List Wire} : ∀ {f : Nat} {out : List Bool}, (feedN ws f out).length = out.length
  | 0, _ => rfl
  | f + 1, out => by
    rw [feedN]
    split
    · rw [feedN_len, List.length_set]
    · rfl
structure FOk (ws : List Wire) (out : List Bool) : Prop where
  cl : ∀ w ∈ ws, out.getD w.to.toNat Dat.d0 = true → out.getD w.frm.toNat Dat.d0 = true
theorem feedN_ok {ws : List Wire} : ∀ {f : Nat} {out : List Bool}, (∀ w ∈ ws, w.frm.toNat < out.length) → cntF out ≤ f → FOk ws (feedN ws f out) ∧ ∀ j, out.getD j Dat.d0 = true → (feedN ws f out).getD j Dat.d0 = true
  | 0, out, hl, hc => by
    refine ⟨⟨fun w hw _ => ?_⟩, fun j h => h⟩
    show out.getD w.frm.toNat Dat.d0 = true
    cases h : out.getD w.frm.toNat Dat.d0 with
    | true => rfl
    | false =>
      have := cntF_set (hl w hw) h
      omega
  | f + 1, out, hl, hc => by
    rw [feedN]
    split
    · rename_i k hk
      obtain ⟨w, hw, h1, h2, rfl⟩ := hit_some hk
      have h3 := cntF_set (hl w hw) h2
      obtain ⟨a, b⟩ := feedN_ok (ws := ws) (f := f) (out := out.set w.frm.toNat true) (fun v hv => by rw [List.length_set]; exact hl v hv) (by omega)
      refine ⟨a, fun j h => b j ?_⟩
      by_cases e : j = w.frm.toNat
      · subst e
        simp [List.getD_eq_getElem?_getD, hl w hw]
      · rw [List.getD_eq_getElem?_getD, List.getElem?_set, if_neg (fun z => e z.symm), ← List.getD_eq_getElem?_getD]; exact h
    · rename_i hk
      exact ⟨⟨hit_none hk⟩, fun j h => h⟩
theorem feed_hit {ws : List Wire} {f k : Nat} {out : List Bool} (h : hitW out ws = some k) (hl : ∀ w ∈ ws, w.frm.toNat < out.length) (hc : cntF out ≤ f) : 0 < f ∧ feedN ws f out = feedN ws (f - 1) (out.set k true) ∧ cntF (out.set k true) ≤ f - 1 := by
  obtain ⟨w, hw, h1, h2, rfl⟩ := hit_some h
  have h3 := cntF_set (hl w hw) h2
  match f, hc with
  | 0, hc => omega
  | f + 1, hc =>
    refine ⟨Nat.succ_pos _, ?_, by omega⟩
    rw [feedN, h]; rfl
theorem feed_end {ws : List Wire} {f : Nat} {out : List Bool} (h : hitW out ws = none) : feedN ws f out = out := by
  match f with
  | 0 => rfl
  | f + 1 => rw [feedN, h]
theorem hit_drop {out : List Bool} {ws : List Wire} {k : Nat} (hk : k < ws.length) : hitW out (ws.drop k) = if out.getD (ws.getD k Dat.d0).to.toNat Dat.d0 = true ∧ out.getD (ws.getD k Dat.d0).frm.toNat Dat.d0 = false then some (ws.getD k Dat.d0).frm.toNat else hitW out (ws.drop (k + 1)) := by
  rw [drop_cons Dat.d0 hk, hitW]

end Go.Proofs.Ytbnpacdkllmblaa
