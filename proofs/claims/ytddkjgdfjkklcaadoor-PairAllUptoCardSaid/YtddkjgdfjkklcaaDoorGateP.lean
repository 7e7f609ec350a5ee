/- The program's functions, walked: GateP. -/
import Derived.Test.YtddkjgdfjkklcaaDoorGate
set_option linter.all false
namespace Go.Proofs.YtddkjgdfjkklcaaDoor
open Go Go.Abs
/- The plain laws of gates. -/
theorem claimG_ok {g : Gate} {w n : Int} (h : (claimG g w n).2.2 = 0) : checkG g = 0 ∧ (claimS g.fence w n).2.2 = 0 ∧ claimG g w n = (⟨(claimS g.fence w n).1, g.out⟩, (claimS g.fence w n).2.1, 0) := by
  unfold claimG at *
  split at h
  · rename_i h1
    split at h
    · rename_i h2; exact ⟨h1, h2, by rw [if_pos h1, if_pos h2]⟩
    · rename_i h2; exact absurd h h2
  · rename_i h1; exact absurd h h1
theorem claimS_ok {f : Fence} {w n : Int} (h : (claimS f w n).2.2 = 0) : mayV f w n = 0 := by
  unfold claimS at h
  split at h
  · assumption
  · rename_i h1; exact absurd h h1
theorem mayV_ok {f : Fence} {w n : Int} (h : mayV f w n = 0) : chB f = true ∧ whoB w = true ∧ epB n = true := by
  unfold mayV at h
  split at h
  · rename_i h1
    split at h
    · rename_i h2; simp at h2; exact ⟨h1, h2.1, h2.2⟩
    · cases h
  · cases h
theorem claim_epoch {f : Fence} {w n : Int} (h : (claimS f w n).2.2 = 0) : f.epoch ≤ (claimS f w n).1.epoch := by
  have hm := claimS_ok h
  unfold claimS
  rw [if_pos hm]
  split
  · dsimp only; omega
  · exact Int.le_refl _
theorem wrongG_ok {g : Gate} {x : Give} (h : wrongG g x = 0) : (passS g.fence x.who x.epoch) = (true, 0) ∧ x.text.size ≤ 1000 ∧ 0 ≤ x.num ∧ x.num ≤ g.out.length ∧ (x.num < g.out.length → g.out.getD x.num.toNat Dat.d0 = x.text) ∧ x.num ≠ 1000 := by
  unfold wrongG at h
  split at h
  · rename_i h1
    split at h
    · rename_i h2
      split at h
      · cases h
      · rename_i h3
        split at h
        · cases h
        · split at h
          · cases h
          · split at h
            · cases h
            · rename_i h6
              split at h
              · cases h
              · refine ⟨Prod.ext h2 h1, ?_, by omega, by omega, fun h7 => ?_, by assumption⟩
                · have := h3; unfold longB at this; simp at this; omega
                · exact Classical.byContradiction fun h8 => h6 ⟨h7, h8⟩
    · cases h
  · rename_i h1; exact absurd h h1
theorem handG_ok {g : Gate} {x : Give} (h : (handG g x).2.2 = 0) : checkG g = 0 ∧ wrongG g x = 0 ∧ ((x.num < g.out.length ∧ handG g x = (g, false, 0)) ∨ (x.num = g.out.length ∧ handG g x = (⟨g.fence, g.out ++ [x.text]⟩, true, 0))) := by
  have h0 : handE g x = 0 := by
    unfold handG at h
    split at h
    · assumption
    · rename_i h1; exact absurd h h1
  have h1 : checkG g = 0 ∧ wrongG g x = 0 := by
    unfold handE at h0
    split at h0
    · exact ⟨by assumption, h0⟩
    · rename_i h1; exact absurd h0 h1
  obtain ⟨-, -, a1, a2, -⟩ := wrongG_ok h1.2
  refine ⟨h1.1, h1.2, ?_⟩
  rw [handG, if_pos h0]
  split
  · rename_i h2; exact .inl ⟨h2, rfl⟩
  · exact .inr ⟨by omega, rfl⟩
theorem handG_err {g : Gate} {x : Give} (h : ¬ (handG g x).2.2 = 0) : (handG g x).2.1 = false := by
  unfold handG at *
  split
  · rename_i h0
    rw [if_pos h0] at h
    split at h <;> exact absurd rfl h
  · rfl
theorem again_law {g : Gate} {x : Give} (h : (handG g x).2.2 = 0) : checkG (handG g x).1 = 0 ∧ handG (handG g x).1 x = ((handG g x).1, false, 0) ∧ 0 ≤ x.num ∧ x.num < (handG g x).1.out.length ∧ (handG g x).1.out.getD x.num.toNat Dat.d0 = x.text ∧ (handG g x).1.out.length ≤ 1000 ∧
    ∀ t : ByteArray, ¬ t = x.text → t.size ≤ 1000 → (handG (handG g x).1 ⟨x.who, x.epoch, x.num, t⟩).2.2 = 8 := by
  obtain ⟨h1, h2, h3⟩ := handG_ok h
  obtain ⟨c1, c2, c3⟩ := checkG_ok h1
  obtain ⟨w1, w2, w3, w4, w5, w6⟩ := wrongG_ok h2
  have key : ∀ a : Gate, a.fence = g.fence → checkG a = 0 → x.num < a.out.length → a.out.getD x.num.toNat Dat.d0 = x.text → handG a x = (a, false, 0) ∧ ∀ t : ByteArray, ¬ t = x.text → t.size ≤ 1000 → (handG a ⟨x.who, x.epoch, x.num, t⟩).2.2 = 8 := by
    intro a af ac an at_
    have hl : ¬ longB x.text = true := by unfold longB; simp; omega
    constructor
    · have hw : wrongG a x = 0 := by
        unfold wrongG
        rw [af, w1, if_pos rfl, if_pos rfl, if_neg hl, if_neg (by omega), if_neg (by omega), if_neg (fun q => q.2 at_), if_neg w6]
      rw [handG, handE, if_pos ac, if_pos hw, if_pos an]
    · intro t ht hs
      have hl : ¬ longB t = true := by unfold longB; simp; omega
      have hw : wrongG a ⟨x.who, x.epoch, x.num, t⟩ = 8 := by
        unfold wrongG
        dsimp only
        rw [af, w1, if_pos rfl, if_pos rfl, if_neg hl, if_neg (by omega), if_neg (by omega), if_pos ⟨an, fun q => ht (q.symm.trans at_)⟩]
      rw [handG, handE, if_pos ac, hw]; rfl
  rcases h3 with ⟨h3, h4⟩ | ⟨h3, h4⟩
  · rw [h4]
    obtain ⟨k1, k2⟩ := key g rfl h1 h3 (w5 h3)
    exact ⟨h1, k1, w3, h3, w5 h3, c2, k2⟩
  · rw [h4]
    have hc : checkG ⟨g.fence, g.out ++ [x.text]⟩ = 0 := by
      unfold checkG
      have : longB x.text = false := by unfold longB; simp; omega
      rw [if_pos c1, if_neg (by simp; omega), List.any_append, c3, List.any_cons, this]; rfl
    have hn : x.num < (g.out ++ [x.text]).length := by simp; omega
    have hg : (g.out ++ [x.text]).getD x.num.toNat Dat.d0 = x.text := by
      rw [gd_snoc _ _ _ _ (by omega), show decide (x.num.toNat < g.out.length) = false by simp; omega]; rfl
    obtain ⟨k1, k2⟩ := key ⟨g.fence, g.out ++ [x.text]⟩ rfl hc hn hg
    exact ⟨hc, k1, w3, hn, hg, by simp; omega, k2⟩
theorem claimG_err {g : Gate} {w n : Int} (h : ¬ (claimG g w n).2.2 = 0) : (claimG g w n).2.1 = false := by
  unfold claimG at *
  split
  · rename_i h1
    rw [if_pos h1] at h
    split
    · rename_i h2; rw [if_pos h2] at h; exact absurd rfl h
    · rfl
  · rfl
theorem old_law {g : Gate} {w n : Int} {x : Give} (h : (claimG g w n).2.2 = 0) (hk : (claimG g w n).2.1 = true) : (claimG g w n).1.out.length ≤ 1000 ∧ (x.epoch = n → x.who = w → (handG (claimG g w n).1 x).2.2 ≠ 9) ∧
    (¬ (x.epoch = n ∧ x.who = w) → (handG (claimG g w n).1 x).2.1 = false ∧ ((handG (claimG g w n).1 x).2.2 = 9 ∨ (handG (claimG g w n).1 x).2.2 = 1)) := by
  obtain ⟨h1, h2, h3⟩ := claimG_ok h
  obtain ⟨c1, c2, c3⟩ := checkG_ok h1
  obtain ⟨m1, m2, m3⟩ := mayV_ok (claimS_ok h2)
  rw [h3] at hk ⊢
  have hf : (claimS g.fence w n).1 = ⟨n, w⟩ := by
    unfold claimS at hk ⊢
    rw [if_pos (claimS_ok h2)] at hk ⊢
    split at hk
    · rename_i q; rw [if_pos q]
    · rename_i q
      rw [if_neg q]
      simp only [Bool.and_eq_true, beq_iff_eq] at hk
      generalize g.fence = f at *
      cases f; simp_all
  rw [hf]
  have hc : checkG ⟨⟨n, w⟩, g.out⟩ = 0 := by
    unfold checkG
    rw [if_pos (by simp [chB, m2, m3]), if_neg (show ¬ 1000 < g.out.length by omega), c3]; rfl
  refine ⟨c2, fun e1 e2 => ?_, fun hne => ?_⟩
  · have hp : passS ⟨n, w⟩ x.who x.epoch = (true, 0) := by
      unfold passS
      rw [e1, e2, may0 (by simp [chB, m2, m3]) m2 m3, if_pos rfl]; simp
    have hw : wrongG ⟨⟨n, w⟩, g.out⟩ x ≠ 9 := by
      unfold wrongG
      dsimp only
      rw [hp, if_pos rfl, if_pos rfl]
      repeat' split
      all_goals simp
    rw [handG]
    split
    · split <;> simp
    · rw [handE, if_pos hc]; exact hw
  · have hp : (passS ⟨n, w⟩ x.who x.epoch).1 = false ∧ ((passS ⟨n, w⟩ x.who x.epoch).2 = 0 ∨ (passS ⟨n, w⟩ x.who x.epoch).2 = 1) := by
      unfold passS
      split
      · refine ⟨?_, .inl rfl⟩
        simp only [Bool.and_eq_false_iff, beq_eq_false_iff_ne, ne_eq]
        by_cases q : n = x.epoch
        · right; intro q2; exact hne ⟨q.symm, q2.symm⟩
        · exact .inl q
      · refine ⟨rfl, .inr ?_⟩
        rename_i q
        unfold mayV at q ⊢
        rw [if_pos (by simp [chB, m2, m3])] at q ⊢
        split at q
        · exact absurd rfl q
        · rename_i q2; rw [if_neg q2]
    have hw : wrongG ⟨⟨n, w⟩, g.out⟩ x = 9 ∨ wrongG ⟨⟨n, w⟩, g.out⟩ x = 1 := by
      unfold wrongG
      dsimp only
      rcases hp.2 with q | q
      · rw [q, if_pos rfl, hp.1]; simp
      · rw [q]; simp
    have he : handE ⟨⟨n, w⟩, g.out⟩ x = wrongG ⟨⟨n, w⟩, g.out⟩ x := by rw [handE, if_pos hc]
    rw [handG, he, if_neg (by omega)]
    exact ⟨rfl, hw⟩

end Go.Proofs.YtddkjgdfjkklcaaDoor
