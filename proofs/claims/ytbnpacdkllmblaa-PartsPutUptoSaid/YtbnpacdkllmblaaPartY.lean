/- Parts, plain: what a tick does to each part. -/
import Derived.Test.YtbnpacdkllmblaaPartX
set_option linter.all false
namespace Go.Proofs.Ytbnpacdkllmblaa
open Go Go.Abs

def Grew (p q : Part) : Prop := q.code = p.code ∧ q.vm = p.vm ∧ ∃ e, q.box = p.box ++ e
theorem Grew.refl {p : Part} : Grew p p := ⟨rfl, rfl, [], by simp⟩
theorem Grew.trans {p q r : Part} (h : Grew p q) (g : Grew q r) : Grew p r := by
  obtain ⟨h1, h2, e, h3⟩ := h
  obtain ⟨g1, g2, f, g3⟩ := g
  exact ⟨g1.trans h1, g2.trans h2, e ++ f, by rw [g3, h3, List.append_assoc]⟩
theorem setP_any {ps : List Part} {q : Nat} {x : Part} (i : Nat) : (ps.set q x).getD i Dat.d0 = if i = q ∧ i < ps.length then x else ps.getD i Dat.d0 := by
  by_cases hi : i < ps.length
  · rw [setP hi]
    by_cases h : i = q
    · rw [if_pos h, if_pos ⟨h, hi⟩]
    · rw [if_neg h, if_neg (fun z => h z.1)]
  · rw [if_neg (fun z => hi z.2), List.getD_eq_getElem?_getD, List.getD_eq_getElem?_getD, List.getElem?_eq_none (by rw [List.length_set]; omega), List.getElem?_eq_none (by omega)]
theorem sendB_grew {m : Module} {w : Wire} {n : Int} (i : Nat) : Grew (m.parts.getD i Dat.d0) ((sendB m w n).parts.getD i Dat.d0) := by
  unfold sendB
  split
  · show Grew _ ((m.parts.set _ _).getD i Dat.d0)
    rw [setP_any]
    split
    · rename_i h
      rw [h.1]; exact ⟨rfl, rfl, [n], rfl⟩
    · exact .refl
  · exact .refl
theorem sendW_grew {j : Int} {x : Emit} (i : Nat) : ∀ {l : List Wire} {m : Module}, Grew (m.parts.getD i Dat.d0) ((sendW j x l m).parts.getD i Dat.d0)
  | [], m => .refl
  | w :: r, m => by
    rw [sendW]
    split
    · exact (sendB_grew i).trans (sendW_grew i)
    · exact sendW_grew i
theorem sends_grew {j : Int} (i : Nat) : ∀ {out : List Emit} {m : Module}, Grew (m.parts.getD i Dat.d0) ((sendsV j out m).parts.getD i Dat.d0)
  | [], m => .refl
  | x :: r, m => by rw [sendsV]; exact (sendW_grew i).trans (sends_grew i)
theorem tick_turn {m : Module} (h : (tickV m).2 = 0) (i : Nat) : ((tickV m).1.parts.getD i Dat.d0).code = (m.parts.getD i Dat.d0).code ∧ (¬ (i : Int) = (ownerV m.table m.now).1 → Grew (m.parts.getD i Dat.d0) ((tickV m).1.parts.getD i Dat.d0)) := by
  have g := tick_go h
  unfold tickV
  rw [if_neg g]
  split
  · exact ⟨rfl, fun _ => .refl⟩
  · rename_i hb
    have hb : partB m (ownerV m.table m.now).1 = true := by simpa using hb
    have hb2 := of_decide_eq_true hb
    generalize (ownerV m.table m.now).1 = j at hb2
    have s := @sends_grew j i (outP (m.parts.getD j.toNat Dat.d0)) ⟨m.table, m.parts.set j.toNat (ranP (m.parts.getD j.toNat Dat.d0)), m.wires, m.now + 1, m.lost⟩
    dsimp only at s ⊢
    rw [setP_any] at s
    by_cases hij : i = j.toNat
    · rw [if_pos ⟨hij, by omega⟩] at s
      exact ⟨s.1.trans (by rw [hij]; rfl), fun q => by omega⟩
    · rw [if_neg (fun z => hij z.1)] at s
      exact ⟨s.1, fun _ => s⟩
theorem owner_ok {t : Table} {x : Int} (h : wchkV t = 0) (h1 : 0 ≤ x) (h2 : x ≤ 1099511627776) : (ownerV t x).2 = 0 := by
  unfold ownerV
  rw [if_pos h, if_neg (by omega)]
theorem run_one {m : Module} (h : (runPV m 1).2 = 0) : mchkV m = 0 ∧ (tickV m).2 = 0 ∧ runPV m 1 = ((tickV m).1, 0) := by
  obtain ⟨h1, _, _, e⟩ := runP_ok h
  rw [e] at h ⊢
  show mchkV m = 0 ∧ _ ∧ ticksV 1 m = _
  have h : (ticksV 1 m).2 = 0 := h
  by_cases h2 : (tickV m).2 = 0
  · exact ⟨h1, h2, by rw [ticks_step h2]; rfl⟩
  · rw [ticks_bad h2] at h; exact absurd h h2
def cutA (a b : List Int) : AV := .sl 1 (fun _ => ((b.length : Int) - 0).toNat) fun k => Dat.enc fun _ => a.getD (k () + Int.toNat 0) Dat.d0
theorem cut_val {a b e : List Int} (h : a = b ++ e) : (slV (cutA a b) : List Int) = b := by
  refine lst_eq (d := Dat.d0) (show ((b.length : Int) - 0).toNat = b.length by omega) fun i hi => ?_
  show a.getD (i + 0) Dat.d0 = b.getD i Dat.d0
  have hi : i < ((b.length : Int) - 0).toNat := hi
  have hi : i < b.length := by omega
  rw [h, Nat.add_zero]
  simp [List.getD_eq_getElem?_getD, List.getElem?_append, hi]

end Go.Proofs.Ytbnpacdkllmblaa
