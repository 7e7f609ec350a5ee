/- Locks, plain: what is right, the ceilings. -/
import Derived.Test.YthbdlihmafcioaaTy
set_option linter.all false
namespace Go.Proofs.Ythbdlihmafcioaa
open Go Go.Abs

def rgtR : List Int → Bool → List Act → Bool
  | h, runs, [] => runs && decide (h.length = 0)
  | h, runs, a :: r =>
    if a.kind = 1 then (if a.n < 1 ∨ 100 < a.n then false else rgtR h true r)
    else if a.kind = 2 then (if a.n < 0 ∨ 8 ≤ a.n ∨ a.n ∈ h then false else rgtR (h ++ [a.n]) false r)
    else if a.kind = 3 then (if h.length = 0 ∨ h.getD (h.length - 1) 0 ≠ a.n then false else rgtR (h.take (h.length - 1)) runs r)
    else false
def rgtV (w : Work) : Bool := decide (0 ≤ w.came) && decide (w.came ≤ 1000) && rgtR [] false w.acts
def longW (w : Work) : Bool := decide (30 < w.acts.length)
def badW (w : Work) : Bool := !rgtV w
def lckV (l : List Work) : Int := if 8 < l.length ∨ l.any longW = true then 2 else if l.any badW = true then 4 else 0
theorem lck_iff {l : List Work} : lckV l = 0 ↔ l.length ≤ 8 ∧ ∀ w ∈ l, w.acts.length ≤ 30 ∧ rgtV w = true := by
  unfold lckV
  by_cases h1 : 8 < l.length ∨ l.any longW = true
  · rw [if_pos h1]
    refine ⟨fun h => (by cases h), fun ⟨h2, h3⟩ => ?_⟩
    rcases h1 with h1 | h1
    · omega
    · obtain ⟨w, hw, h4⟩ := List.any_eq_true.1 h1
      have := (h3 w hw).1
      simp [longW] at h4
      omega
  · rw [if_neg h1]
    have h0 : l.length ≤ 8 := by omega
    have h2 : ∀ w ∈ l, w.acts.length ≤ 30 := fun w hw => by
      by_cases h : 30 < w.acts.length
      · exact absurd (.inr (List.any_eq_true.2 ⟨w, hw, by simpa [longW] using h⟩)) h1
      · omega
    by_cases h3 : l.any badW = true
    · rw [if_pos h3]
      refine ⟨fun h => (by cases h), fun ⟨_, h4⟩ => ?_⟩
      obtain ⟨w, hw, h5⟩ := List.any_eq_true.1 h3
      have := (h4 w hw).2
      simp [badW, this] at h5
    · rw [if_neg h3]
      refine ⟨fun _ => ⟨h0, fun w hw => ⟨h2 w hw, ?_⟩⟩, fun _ => rfl⟩
      cases h5 : rgtV w with
      | true => rfl
      | false => exact absurd (List.any_eq_true.2 ⟨w, hw, by simp [badW, h5]⟩) h3
theorem rgtR_take : ∀ {l : List Act} {h : List Int} {runs : Bool}, rgtR h runs l = true → ∀ a ∈ l, a.kind = 2 → 0 ≤ a.n ∧ a.n < 8
  | [], _, _, _, a, ha, _ => by cases ha
  | b :: r, h, runs, hr, a, ha, hk => by
    rw [rgtR] at hr
    rcases List.mem_cons.1 ha with rfl | ha
    · rw [if_neg (by omega), if_pos hk] at hr
      split at hr
      · cases hr
      · omega
    · split at hr
      · split at hr
        · cases hr
        · exact rgtR_take hr a ha hk
      · split at hr
        · split at hr
          · cases hr
          · exact rgtR_take hr a ha hk
        · split at hr
          · split at hr
            · cases hr
            · exact rgtR_take hr a ha hk
          · cases hr
def ceilA (i : Int) : List Int → List Act → List Int
  | out, [] => out
  | out, a :: r => ceilA i (if a.kind = 2 ∧ out.getD a.n.toNat 0 < 0 then out.set a.n.toNat i else out) r
def ceilW : Int → List Int → List Work → List Int
  | _, out, [] => out
  | i, out, w :: r => ceilW (i + 1) (ceilA i out w.acts) r
def ceilV (l : List Work) : List Int := ceilW 0 (List.replicate 8 (-1)) l
theorem ceilA_len {i : Int} : ∀ {l : List Act} {out : List Int}, (ceilA i out l).length = out.length
  | [], _ => rfl
  | a :: r, out => by rw [ceilA, ceilA_len]; split <;> simp
theorem ceilW_len : ∀ {l : List Work} {i : Int} {out : List Int}, (ceilW i out l).length = out.length
  | [], _, _ => rfl
  | w :: r, i, out => by rw [ceilW, ceilW_len, ceilA_len]
theorem ceilV_len {l : List Work} : (ceilV l).length = 8 := by rw [ceilV, ceilW_len, List.length_replicate]

end Go.Proofs.Ythbdlihmafcioaa
