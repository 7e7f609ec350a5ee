/- Two sorted rows of jobs, merged in place: plain. -/
import Derived.Test.YtcnfdohlgmipoaaStJ3
set_option linter.all false
namespace Go.Proofs.Ytcnfdohlgmipoaa
open Go Go.Abs

theorem sortS_of {l : List job} (h : SrtJ l) : sortS l = l := sortS_uniq h fun _ => rfl
theorem merge_one {x : job} {B1 B2 : List job} (hB : SrtJ (B1 ++ B2)) (h1 : ∀ y ∈ B1, y.done.came < x.done.came) (h2 : ∀ y ∈ B2, x.done.came ≤ y.done.came) : sortS (x :: (B1 ++ B2)) = B1 ++ x :: B2 := by
  have hB' := List.pairwise_append.1 hB
  refine sortS_uniq ?_ fun c => ?_
  · refine List.pairwise_append.2 ⟨hB'.1, List.pairwise_cons.2 ⟨fun y hy => h2 y hy, hB'.2.1⟩, fun a ha b hb => ?_⟩
    rcases List.mem_cons.1 hb with rfl | hb
    · have := h1 a ha; omega
    · exact hB'.2.2 a ha b hb
  · rw [fltJ_app, fltJ_cons, fltJ_cons, fltJ_app]
    by_cases hc : x.done.came = c
    · rw [if_pos hc, if_pos hc, fltJ_none (l := B1) fun y hy => by have := h1 y hy; omega]
      rfl
    · rw [if_neg hc, if_neg hc]
theorem put_one {x : job} {A1 A2 : List job} (hA : SrtJ (A1 ++ A2)) (h1 : ∀ y ∈ A1, y.done.came ≤ x.done.came) (h2 : ∀ y ∈ A2, x.done.came < y.done.came) : sortS ((A1 ++ A2) ++ [x]) = A1 ++ x :: A2 :=
  sortS_put (sortS_of hA) h1 h2
theorem sortS_mem {l : List job} {x : job} : x ∈ sortS l ↔ x ∈ l := flt_len _ _ (fun c => sortS_flt c l) x
theorem merge_gen {A1 A2 B1 B2 : List job} (hA : SrtJ (A1 ++ A2)) (hB : SrtJ (B1 ++ B2)) (h1 : ∀ a ∈ A1, ∀ b ∈ B2, a.done.came ≤ b.done.came) (h2 : ∀ b ∈ B1, ∀ a ∈ A2, b.done.came < a.done.came) :
    sortS ((A1 ++ A2) ++ (B1 ++ B2)) = sortS (A1 ++ B1) ++ sortS (A2 ++ B2) := by
  have hA' := List.pairwise_append.1 hA
  have hB' := List.pairwise_append.1 hB
  refine sortS_uniq ?_ fun c => ?_
  · refine List.pairwise_append.2 ⟨sortS_srt _, sortS_srt _, fun a ha b hb => ?_⟩
    rcases List.mem_append.1 (sortS_mem.1 ha) with ha | ha <;> rcases List.mem_append.1 (sortS_mem.1 hb) with hb | hb
    · exact hA'.2.2 a ha b hb
    · exact h1 a ha b hb
    · exact Int.le_of_lt (h2 a ha b hb)
    · exact hB'.2.2 a ha b hb
  · rw [fltJ_app, sortS_flt, sortS_flt, fltJ_app, fltJ_app, fltJ_app, fltJ_app, fltJ_app]
    have key : fltJ c B1 ++ fltJ c A2 = fltJ c A2 ++ fltJ c B1 := by
      by_cases hb : ∃ b ∈ B1, b.done.came = c
      · obtain ⟨b, hb1, hb2⟩ := hb
        rw [fltJ_none (l := A2) fun y hy => by have := h2 b hb1 y hy; omega]
        simp
      · rw [fltJ_none (l := B1) fun y hy q => hb ⟨y, hy, q⟩]
        simp
    simp only [List.append_assoc]
    rw [← List.append_assoc (fltJ c B1), key, List.append_assoc]
theorem all_le {A B : List job} (hA : SrtJ A) (hB : SrtJ B) (h : ∀ a b, A.getLast? = some a → B.head? = some b → a.done.came ≤ b.done.came) : ∀ x ∈ A, ∀ y ∈ B, x.done.came ≤ y.done.came := by
  intro x hx y hy
  obtain ⟨A', a, rfl⟩ := ends (S := A) (List.length_pos_of_mem hx)
  cases B with
  | nil => cases hy
  | cons b B =>
    have h0 := h a b (by simp) rfl
    have h1 : x.done.came ≤ a.done.came := by
      rcases List.mem_append.1 hx with hx | hx
      · exact (List.pairwise_append.1 hA).2.2 x hx a (by simp)
      · rw [List.mem_singleton.1 hx]; exact Int.le_refl _
    have h2 : b.done.came ≤ y.done.came := by
      rcases List.mem_cons.1 hy with rfl | hy
      · exact Int.le_refl _
      · exact (List.pairwise_cons.1 hB).1 y hy
    omega
theorem all_lt {A B : List job} (hA : SrtJ A) (hB : SrtJ B) (h : ∀ a b, A.getLast? = some a → B.head? = some b → a.done.came < b.done.came) : ∀ x ∈ A, ∀ y ∈ B, x.done.came < y.done.came := by
  intro x hx y hy
  obtain ⟨A', a, rfl⟩ := ends (S := A) (List.length_pos_of_mem hx)
  cases B with
  | nil => cases hy
  | cons b B =>
    have h0 := h a b (by simp) rfl
    have h1 : x.done.came ≤ a.done.came := by
      rcases List.mem_append.1 hx with hx | hx
      · exact (List.pairwise_append.1 hA).2.2 x hx a (by simp)
      · rw [List.mem_singleton.1 hx]; exact Int.le_refl _
    have h2 : b.done.came ≤ y.done.came := by
      rcases List.mem_cons.1 hy with rfl | hy
      · exact Int.le_refl _
      · exact (List.pairwise_cons.1 hB).1 y hy
    omega
def cutJ (l : List job) (a b : Nat) : List job := (l.drop a).take (b - a)
theorem cutJ_len {l : List job} {a b : Nat} (h : b ≤ l.length) : (cutJ l a b).length = b - a := by
  unfold cutJ; rw [List.length_take, List.length_drop]; omega
theorem cutJ_app {l : List job} {a m b : Nat} (h1 : a ≤ m) (h2 : m ≤ b) : cutJ l a m ++ cutJ l m b = cutJ l a b := by
  unfold cutJ
  have e := List.take_append_drop (m - a) ((l.drop a).take (b - a))
  rw [List.take_take, List.drop_take, List.drop_drop, show min (m - a) (b - a) = m - a by omega, show a + (m - a) = m by omega, show b - a - (m - a) = b - m by omega] at e
  exact e
theorem cutJ_all {l : List job} {a b : Nat} (h : a ≤ b) : l.take a ++ cutJ l a b ++ l.drop b = l := seg_cut l a b h
theorem cutJ_last {l : List job} {a b : Nat} {x : job} (h1 : a < b) (h2 : b ≤ l.length) (hx : (cutJ l a b).getLast? = some x) : x = l.getD (b - 1) jd0 := by
  rw [List.getLast?_eq_getElem?, cutJ_len h2] at hx
  unfold cutJ at hx
  rw [List.getElem?_take, if_pos (by omega), List.getElem?_drop, show a + (b - a - 1) = b - 1 by omega] at hx
  rw [List.getD_eq_getElem?_getD, hx]; rfl
theorem cutJ_head {l : List job} {a b : Nat} {x : job} (hx : (cutJ l a b).head? = some x) : x = l.getD a jd0 ∧ a < b := by
  have : a < b := by
    rcases Nat.lt_or_ge a b with h | h
    · exact h
    · unfold cutJ at hx
      rw [show b - a = 0 by omega] at hx
      simp at hx
  refine ⟨?_, this⟩
  rw [List.head?_eq_getElem?] at hx
  unfold cutJ at hx
  rw [List.getElem?_take, if_pos (by omega), List.getElem?_drop, Nat.add_zero] at hx
  rw [List.getD_eq_getElem?_getD, hx]; rfl

end Go.Proofs.Ytcnfdohlgmipoaa
