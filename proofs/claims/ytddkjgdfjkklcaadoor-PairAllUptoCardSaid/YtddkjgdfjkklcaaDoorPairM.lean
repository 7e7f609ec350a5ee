/- A pair's laws, plain. -/
import Derived.Test.YtddkjgdfjkklcaaDoorPairL
set_option linter.all false
namespace Go.Proofs.YtddkjgdfjkklcaaDoor
open Go Go.Abs

theorem play_ok {code : List Ins} {n : Int} {l : List PairAct} (h : (playA code n l).2.2 = 0) : checkP code = 0 ∧ 1 ≤ n ∧ n ≤ 4 ∧ l.length ≤ 100 ∧ playA code n l = (runA code (p0 n) l, ansA code (p0 n) l, 0) := by
  unfold playA at h ⊢
  by_cases h1 : checkP code = 0
  · rw [if_neg (fun q => q h1)] at h ⊢
    by_cases h2 : n < 1 ∨ 4 < n
    · rw [if_pos h2] at h; cases h
    · rw [if_neg h2] at h ⊢
      by_cases h3 : 100 < l.length
      · rw [if_pos h3] at h; cases h
      · rw [if_neg h3]
        exact ⟨h1, by omega, by omega, by omega, rfl⟩
  · rw [if_pos h1] at h; exact absurd h h1
theorem play_st {code : List Ins} {n : Int} {l : List PairAct} (h : (playA code n l).2.2 = 0) : PrOk code n l.length (playA code n l).1 := by
  obtain ⟨h1, h2, h3, h4, h5⟩ := play_ok h
  rw [h5]
  have := (run_prok h1 h3 (l := l) (p0_ok (code := code) h2) (by omega)).1
  rwa [Nat.zero_add] at this
theorem play_ans {code : List Ins} {n : Int} {l : List PairAct} (h : (playA code n l).2.2 = 0) : (playA code n l).2.1.length = l.length := by
  obtain ⟨h1, h2, h3, h4, h5⟩ := play_ok h
  rw [h5]; exact ansA_len
theorem play_act {code : List Ins} {n : Int} {l : List PairAct} (h : (playA code n l).2.2 = 0) {k : Nat} (hk : k < l.length) : ActR code (runA code (p0 n) (l.take k)) (runA code (p0 n) (l.take (k + 1))) (l.getD k Dat.d0) ((playA code n l).2.1.getD k Dat.d0) := by
  obtain ⟨h1, h2, h3, h4, h5⟩ := play_ok h
  have hp := (run_prok h1 h3 (l := l.take k) (p0_ok (code := code) h2) (by rw [List.length_take]; omega)).1
  rw [h5]
  show ActR code _ _ _ ((ansA code (p0 n) l).getD k Dat.d0)
  rw [ansA_get hk, runA_snoc hk]
  exact (hp.act (a := l.getD k Dat.d0) h1 h3 (by rw [List.length_take]; omega)).2
theorem front_ans {code : List Ins} {n : Int} {l : List PairAct} (h : (playA code n l).2.2 = 0) {k : Nat} (hk : k < l.length) (h4 : (l.getD k Dat.d0).kind = 4) : (playA code n l).2.1.getD k Dat.d0 ≠ 8 ∧ (playA code n l).2.1.getD k Dat.d0 ≠ 1 := (play_act h hk).e8 h4
theorem frontV_of {a b : List ByteArray} (h : a <+: b) : frontV a b = true := by
  unfold frontV
  rw [decide_eq_true h.length_le, decide_eq_true (List.prefix_iff_eq_take.1 h)]; rfl
theorem told_out {code : List Ins} {log : List Int} (hc : checkP code = 0) (hn : allN log) (hl : log.length ≤ 5000) : (toldV code log).1 = (runM code 5000 (mac0 v0 log)).1.out.map textV := by
  unfold toldV
  rw [runV_of (err_v0 hc hn hl (by omega) (by omega))]; rfl
theorem front_law {code : List Ins} {n : Int} {l : List PairAct} (h : (playA code n l).2.2 = 0) : frontV (playA code n l).1.gate.out (toldV code (playA code n l).1.log).1 = true := by
  obtain ⟨h1, h2, h3, h4, h5⟩ := play_ok h
  have P := play_st h
  have hl := P.ll
  rw [told_out h1 P.lg (by omega)]
  obtain ⟨f, v, o, r, g1, g2, g3⟩ := P.ge
  exact frontV_of (g3.trans ((at_pre g2 (by omega)).map _))

end Go.Proofs.YtddkjgdfjkklcaaDoor
