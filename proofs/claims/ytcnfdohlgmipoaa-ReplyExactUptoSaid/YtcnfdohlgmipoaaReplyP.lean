/- The plain laws of replies. -/
import Derived.Test.YtcnfdohlgmipoaaReply2
import Derived.Test.YtcnfdohlgmipoaaGalP
set_option linter.all false
namespace Go.Proofs.Ytcnfdohlgmipoaa
open Go Go.Abs

theorem needS_mono {n m : Int} (h0 : 1 ≤ n) (hm : n ≤ m) : ∀ {l : List Task}, l.all okT = true → needS n l ≤ needS m l
  | [], _ => Int.le_refl _
  | t :: r, h => by
    simp only [List.all_cons, Bool.and_eq_true] at h
    have ho := okT_iff.1 h.1
    have := needS_mono h0 hm h.2
    rw [needS, needS, Int.tdiv_eq_ediv_of_nonneg (by omega), Int.tdiv_eq_ediv_of_nonneg (by omega)]
    have a := Int.ediv_le_ediv (show 0 < t.every by omega) (show n + t.every - 1 ≤ m + t.every - 1 by omega)
    have := Int.mul_le_mul_of_nonneg_right a (show 0 ≤ t.long by omega)
    omega
theorem needS_nn {n : Int} (h0 : 1 ≤ n) : ∀ {l : List Task}, l.all okT = true → 0 ≤ needS n l
  | [], _ => Int.le_refl _
  | t :: r, h => by
    simp only [List.all_cons, Bool.and_eq_true] at h
    have ho := okT_iff.1 h.1
    have := needS_nn h0 h.2
    rw [needS, Int.tdiv_eq_ediv_of_nonneg (by omega)]
    have := Int.mul_nonneg (Int.ediv_nonneg (show 0 ≤ n + t.every - 1 by omega) (show 0 ≤ t.every by omega)) (show 0 ≤ t.long by omega)
    omega
theorem needS_sub {n : Int} (h0 : 1 ≤ n) {m l : List Task} (h : m.Sublist l) (ho : l.all okT = true) : needS n m ≤ needS n l := by
  induction h with
  | slnil => exact Int.le_refl _
  | cons a _ ih =>
    simp only [List.all_cons, Bool.and_eq_true] at ho
    have i2 := ih ho.2
    have := needS_nn h0 (l := [a]) (by simp [ho.1])
    rw [needS, needS] at this
    rw [needS]; omega
  | cons_cons a _ ih =>
    simp only [List.all_cons, Bool.and_eq_true] at ho
    have i2 := ih ho.2
    rw [needS, needS]; omega
theorem needS_perm {n : Int} {l m : List Task} (h : l.Perm m) : needS n l = needS n m := by
  induction h with
  | nil => rfl
  | cons x _ ih => rw [needS, needS, ih]
  | swap x y l => rw [needS, needS, needS, needS]; omega
  | trans _ _ i1 i2 => rw [i1, i2]
theorem all_take2 {l : List Task} (i : Nat) (h : l.all okT = true) : (l.take i).all okT = true := by
  rw [List.all_eq_true] at *
  exact fun x hx => h x (List.mem_of_mem_take hx)
theorem need_mono {l : List Task} {p n m : Int} (ho : l.all okT = true) (h0 : 1 ≤ n) (hm : n ≤ m) : needV l p n ≤ needV l p m := by
  have := needS_mono h0 hm (all_take2 p.toNat ho)
  unfold needV; omega
theorem wait_or {s : Set} (h : Right s) {need : Int} (h0 : 0 < need) (h1 : need ≤ 1000000) :
    ((waitV s need).2 = 0 ∧ ∀ m, 0 ≤ m → m < (waitV s need).1 → leastV s m < need) ∨ (¬ (waitV s need).2 = 0 ∧ ∀ m, 0 ≤ m → leastV s m = 0) := by
  by_cases hne : s.spans.length = 0
  · right
    refine ⟨?_, fun m hm => ?_⟩
    · unfold waitV fewV
      rw [if_pos (check_iff.2 h), if_neg (by omega), if_neg (by omega), if_pos hne]
      decide
    · obtain ⟨-, t, ht, e⟩ := leastV_spec h hm
      rw [e]; exact win_none h (List.length_eq_zero_iff.1 hne)
  · obtain ⟨W, w1, w2, w3, w4, w5⟩ := wait_spec h hne h0 h1
    left
    rw [w1]
    exact ⟨rfl, fun m hm hlt => w5 m hm hlt⟩
theorem repN_spec {l : List Task} {p : Int} {s : Set} (hR : Right s) (ho : l.all okT = true) (hp0 : 0 ≤ p) (hp : p < l.length) : ∀ (f : Nat) (n : Int), ((l.getD p.toNat Dat.d0).due + 1 - n).toNat ≤ f → 1 ≤ n → (∀ m, 1 ≤ m → m < n → leastV s m < needV l p m) →
    (∃ r, repN l p s n = (r, 0) ∧ 1 ≤ r ∧ r ≤ (l.getD p.toNat Dat.d0).due ∧ needV l p r ≤ leastV s r ∧ ∀ m, 1 ≤ m → m < r → leastV s m < needV l p m) ∨
    (repN l p s n = (0, 11) ∧ ∀ m, 1 ≤ m → m ≤ (l.getD p.toNat Dat.d0).due → leastV s m < needV l p m)
  | 0, n, hf, h1, hm => by
    right
    refine ⟨repN_gt (by omega), fun m h2 h3 => hm m h2 (by omega)⟩
  | f + 1, n, hf, h1, hm => by
    by_cases hle : n ≤ (l.getD p.toNat Dat.d0).due
    · have hpo := okT_iff.1 (tk_get (show p.toNat < l.length by omega) ho)
      have hb := leastV_bound hR (n := n) (by omega) (by omega)
      rw [repN_le hle, hb]
      by_cases he : needV l p n ≤ leastV s n
      · rw [if_pos he]
        exact .inl ⟨n, rfl, h1, hle, he, hm⟩
      · rw [if_neg he]
        have hlt : ∀ m, 1 ≤ m → m ≤ n → leastV s m < needV l p m := fun m h2 h3 => by
          by_cases h4 : m = n
          · subst h4; omega
          · exact hm m h2 (by omega)
        by_cases hbig : 1000000 < needV l p n
        · rw [if_pos hbig]
          refine .inr ⟨rfl, fun m h2 h3 => ?_⟩
          by_cases h4 : m ≤ n
          · exact hlt m h2 h4
          · have := need_mono (p := p) ho h1 (show n ≤ m by omega)
            have : leastV s m ≤ m := by
              obtain ⟨-, t, ht, e⟩ := leastV_spec hR (show 0 ≤ m by omega)
              rw [e]; exact (win_bd hR (by omega) ht).2
            omega
        · rw [if_neg hbig]
          have hnn : 0 < needV l p n := by
            have := needS_nn h1 (all_take2 p.toNat ho)
            unfold needV; omega
          rcases wait_or hR hnn (by omega) with ⟨w1, w2⟩ | ⟨w1, w2⟩
          · rw [if_pos w1]
            refine repN_spec hR ho hp0 hp f _ (by split <;> omega) (by split <;> omega) fun m h2 h3 => ?_
            by_cases h4 : m ≤ n
            · exact hlt m h2 h4
            · have := need_mono (p := p) ho h1 (show n ≤ m by omega)
              have := w2 m (by omega) (by split at h3 <;> omega)
              omega
          · rw [if_neg w1]
            refine .inr ⟨rfl, fun m h2 h3 => ?_⟩
            have := needS_nn h2 (all_take2 p.toNat ho)
            have := w2 m (by omega)
            unfold needV; omega
    · right
      exact ⟨repN_gt hle, fun m h2 h3 => hm m h2 (by omega)⟩
theorem repV_spec {l : List Task} {p : Int} {s : Set} (hR : Right s) (ho : l.all okT = true) (hp0 : 0 ≤ p) (hp : p < l.length) :
    (∃ r, repV l p s = (r, 0) ∧ 1 ≤ r ∧ r ≤ (l.getD p.toNat Dat.d0).due ∧ needV l p r ≤ leastV s r ∧ ∀ m, 1 ≤ m → m < r → leastV s m < needV l p m) ∨
    (repV l p s = (0, 11) ∧ ∀ m, 1 ≤ m → m ≤ (l.getD p.toNat Dat.d0).due → leastV s m < needV l p m) :=
  repN_spec hR ho hp0 hp _ 1 (Nat.le_refl _) (Int.le_refl _) fun m h1 h2 => by omega
theorem rep_less {l m : List Task} {p q : Int} {s : Set} {n : Int} (hR : Right s) (ho : l.all okT = true) (hp0 : 0 ≤ p) (hp : p < l.length) (hm : m.all okT = true) (hq0 : 0 ≤ q) (hq : q < m.length)
    (h : repV l p s = (n, 0)) (hd : (l.getD p.toNat Dat.d0).due ≤ (m.getD q.toNat Dat.d0).due) (hn : ∀ k, 1 ≤ k → needV m q k ≤ needV l p k) : (repV m q s).2 = 0 ∧ (repV m q s).1 ≤ n := by
  rcases repV_spec hR ho hp0 hp with ⟨r, e, r1, r2, r3, r4⟩ | ⟨e, -⟩
  · have : r = n := by rw [h] at e; exact (congrArg (·.1) e).symm
    subst this
    rcases repV_spec hR hm hq0 hq with ⟨x, e2, x1, x2, x3, x4⟩ | ⟨e2, x⟩
    · rw [e2]
      refine ⟨rfl, ?_⟩
      show x ≤ r
      rcases Int.lt_or_le r x with h5 | h5
      · have := x4 r r1 h5
        have := hn r r1; omega
      · exact h5
    · exfalso
      have := x r r1 (by omega)
      have := hn r r1; omega
  · rw [h] at e
    have := congrArg (·.2) e
    exact absurd (show (0 : Int) = 11 from this) (by decide)
theorem reply_rt {l : List Task} {p : Int} {s : Set} (h : (replyV l p s).2 = 0) : l.length ≤ 16 ∧ l.all okT = true ∧ Right s ∧ 0 ≤ p ∧ p < l.length ∧ replyV l p s = repV l p s := by
  unfold replyV at *
  split at h
  · rename_i hb
    rw [if_pos hb]
    have hb := both_iff.1 hb
    have hc := tchk_iff.1 hb.1
    split at h
    · cases h
    · rename_i hn
      rw [if_neg hn]
      exact ⟨hc.1, hc.2, check_iff.1 hb.2, by omega, by omega, rfl⟩
  · rename_i hb; exact absurd h hb
theorem reply_go {l : List Task} {p : Int} {s : Set} (h1 : l.length ≤ 16) (h2 : l.all okT = true) (h3 : Right s) (h4 : 0 ≤ p) (h5 : p < l.length) : replyV l p s = repV l p s := by
  rw [replyV, if_pos (both_iff.2 ⟨tchk_iff.2 ⟨h1, h2⟩, check_iff.2 h3⟩), if_neg (by omega)]

end Go.Proofs.Ytcnfdohlgmipoaa
