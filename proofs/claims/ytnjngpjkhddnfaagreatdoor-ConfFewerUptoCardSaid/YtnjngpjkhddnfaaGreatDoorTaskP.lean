/- The plain laws of what is wanted. -/
import Derived.Test.YtnjngpjkhddnfaaGreatDoorTask3
import Derived.Test.YtnjngpjkhddnfaaGreatDoorGalP
set_option linter.all false
namespace Go.Proofs.YtnjngpjkhddnfaaGreatDoor
open Go Go.Abs

theorem dem1_eq {t : Task} {n : Int} (h : okT t = true) (h0 : 0 ≤ n) : dem1 t n = ((n - t.due) / t.every + 1) * t.long := by
 have ho := okT_iff.1 h
 unfold dem1
 split
 · rw [Int.tdiv_eq_ediv_of_nonneg (by omega)]
 · have e : (n - t.due) / t.every = -1 := by
     have e2 : n - t.due = (n - t.due + t.every) + (-1) * t.every := by omega
     rw [e2, Int.add_mul_ediv_right _ _ (by omega), Int.ediv_eq_zero_of_lt (by omega) (by omega)]
     rfl
   rw [e]; omega
theorem dem1_shift {t : Task} {n P : Int} (h : okT t = true) (h0 : 0 ≤ n) (hP : 0 ≤ P) (hd : t.every ∣ P) : dem1 t (n + P) = dem1 t n + P.tdiv t.every * t.long := by
 have ho := okT_iff.1 h
 rw [dem1_eq h (by omega), dem1_eq h h0, Int.tdiv_eq_ediv_of_nonneg hP]
 obtain ⟨q, rfl⟩ := hd
 rw [Int.mul_ediv_cancel_left _ (by omega), show n + t.every * q - t.due = (n - t.due) + q * t.every by rw [Int.mul_comm]; omega, Int.add_mul_ediv_right _ _ (by omega)]
 rw [← Int.add_mul]
 congr 1; omega
theorem demS_shift {n P : Int} (h0 : 0 ≤ n) (hP : 0 ≤ P) : ∀ {l : List Task}, l.all okT = true → (∀ t ∈ l, t.every ∣ P) → demS (n + P) l = demS n l + useS P l
 | [], _, _ => rfl
 | t :: r, h, hd => by
   simp only [List.all_cons, Bool.and_eq_true] at h
   have := demS_shift h0 hP h.2 fun x hx => hd x (List.mem_cons_of_mem _ hx)
   rw [demS, demS, useS, this, dem1_shift h.1 h0 hP (hd t (List.mem_cons_self ..))]
   omega
theorem demS_zero : ∀ {l : List Task}, l.all okT = true → demS 0 l = 0
 | [], _ => rfl
 | t :: r, h => by
   simp only [List.all_cons, Bool.and_eq_true] at h
   have ho := okT_iff.1 h.1
   rw [demS, demS_zero h.2, dem1, if_neg (by omega)]; rfl
theorem dem1_mono {t : Task} {n m : Int} (h : okT t = true) (h0 : 0 ≤ n) (hm : n ≤ m) : dem1 t n ≤ dem1 t m := by
 have ho := okT_iff.1 h
 rw [dem1_eq h h0, dem1_eq h (by omega)]
 have := Int.ediv_le_ediv (show 0 < t.every by omega) (show n - t.due ≤ m - t.due by omega)
 exact Int.mul_le_mul_of_nonneg_right (by omega) (by omega)
theorem demS_mono {n m : Int} (h0 : 0 ≤ n) (hm : n ≤ m) : ∀ {l : List Task}, l.all okT = true → demS n l ≤ demS m l
 | [], _ => Int.le_refl _
 | t :: r, h => by
   simp only [List.all_cons, Bool.and_eq_true] at h
   have := demS_mono h0 hm h.2
   have := dem1_mono h.1 h0 hm
   rw [demS, demS]; omega
theorem demS_nn {n : Int} (h0 : 0 ≤ n) {l : List Task} (h : l.all okT = true) : 0 ≤ demS n l := by
 have := demS_mono (Int.le_refl 0) h0 h
 rw [demS_zero h] at this; exact this
theorem dem1_step {t : Task} {n : Int} (h : okT t = true) (h0 : 0 ≤ n) (hd : ¬ (t.due ≤ n + 1 ∧ t.every ∣ n + 1 - t.due)) : dem1 t (n + 1) = dem1 t n := by
 have ho := okT_iff.1 h
 rw [dem1_eq h h0, dem1_eq h (by omega)]
 congr 2
 have hx : ¬ t.every ∣ n + 1 - t.due := fun q => by
   refine hd ⟨?_, q⟩
   obtain ⟨k, hk⟩ := q
   rcases Int.lt_or_le k 0 with h1 | h1
   · have : t.every * k ≤ t.every * (-1) := Int.mul_le_mul_of_nonneg_left (by omega) (by omega)
     omega
   · have := Int.mul_nonneg (show 0 ≤ t.every by omega) h1
     omega
 have hm : (n + 1 - t.due) % t.every ≠ 0 := fun q => hx (Int.dvd_of_emod_eq_zero q)
 have a1 := Int.emod_nonneg (n + 1 - t.due) (show t.every ≠ 0 by omega)
 have a2 := Int.emod_lt_of_pos (n + 1 - t.due) (show 0 < t.every by omega)
 have a3 := Int.emod_add_mul_ediv (n + 1 - t.due) t.every
 generalize (n + 1 - t.due) % t.every = r at *
 generalize (n + 1 - t.due) / t.every = q at *
 have e : n - t.due = (r - 1) + q * t.every := by rw [Int.mul_comm q]; omega
 rw [e, Int.add_mul_ediv_right _ _ (by omega), Int.ediv_eq_zero_of_lt (by omega) (by omega)]
 omega
theorem demS_step {n : Int} (h0 : 0 ≤ n) : ∀ {l : List Task}, l.all okT = true → (∀ t ∈ l, ¬ (t.due ≤ n + 1 ∧ t.every ∣ n + 1 - t.due)) → demS (n + 1) l = demS n l
 | [], _, _ => rfl
 | t :: r, h, hd => by
   simp only [List.all_cons, Bool.and_eq_true] at h
   rw [demS, demS, dem1_step h.1 h0 (hd t (List.mem_cons_self ..)), demS_step h0 h.2 fun x hx => hd x (List.mem_cons_of_mem _ hx)]
theorem comesF_in {b e : Int} (he : 1 ≤ e) : ∀ {f : Nat} {n : Int} {k : Nat}, (b - n).toNat ≤ f → n + k * e < b → n + k * e ∈ comesF f n e b
 | 0, n, k, hf, hb => by
   have := Int.mul_nonneg (show 0 ≤ (k : Int) by omega) (show 0 ≤ e by omega)
   omega
 | f + 1, n, 0, hf, hb => by
   simp only [Int.natCast_zero, Int.zero_mul, Int.add_zero] at *
   rw [comesF, if_pos hb]; exact List.mem_cons_self ..
 | f + 1, n, k + 1, hf, hb => by
   have := Int.mul_nonneg (show 0 ≤ (k : Int) by omega) (show 0 ≤ e by omega)
   rw [Int.natCast_add, Int.add_mul, Int.natCast_one, Int.one_mul] at *
   rw [comesF, if_pos (by omega)]
   have := comesF_in (b := b) (f := f) (n := n + e) (k := k) he (by omega) (by omega)
   rw [show n + ((k : Int) * e + e) = n + e + k * e by omega]
   exact List.mem_cons_of_mem _ this
theorem alls_in {b n : Int} : ∀ {l : List Task} {t : Task}, l.all okT = true → t ∈ l → t.due ≤ n → t.every ∣ n - t.due → n < b → n ∈ allsV b l
 | x :: r, t, h, ht, h1, h2, h3 => by
   simp only [List.all_cons, Bool.and_eq_true] at h
   rw [allsV]
   rcases List.mem_cons.1 ht with rfl | ht
   · refine List.mem_append_left _ ?_
     have ho := okT_iff.1 h.1
     obtain ⟨k, hk⟩ := h2
     have hk0 : 0 ≤ k := by
       rcases Int.lt_or_le k 0 with h4 | h4
       · have : t.every * k ≤ t.every * (-1) := Int.mul_le_mul_of_nonneg_left (by omega) (by omega)
         omega
       · exact h4
     have e : n = t.due + (k.toNat : Int) * t.every := by
       rw [show (k.toNat : Int) = k by omega, Int.mul_comm]; omega
     rw [e]
     exact comesF_in ho.1 (Nat.le_refl _) (by omega)
   · exact List.mem_append_right _ (alls_in h.2 ht h1 h2 h3)
theorem compR_in : ∀ {l : List Int} {a m : Int}, m ∈ l → m = a ∨ m ∈ compR a l
 | x :: r, a, m, h => by
   rw [compR]
   split
   · rename_i hx
     rcases List.mem_cons.1 h with rfl | h
     · exact .inl hx
     · exact compR_in h
   · rcases List.mem_cons.1 h with rfl | h
     · right; exact List.mem_cons_self ..
     · rcases compR_in (a := x) h with rfl | h
       · right; exact List.mem_cons_self ..
       · right; exact List.mem_cons_of_mem _ h
theorem compact_in {l : List Int} {m : Int} (h : m ∈ l) : m ∈ compactL l := by
 cases l with
 | nil => exact h
 | cons x r =>
   rw [compactL]
   rcases List.mem_cons.1 h with rfl | h
   · exact List.mem_cons_self ..
   · rcases compR_in (a := x) h with rfl | h
     · exact List.mem_cons_self ..
     · exact List.mem_cons_of_mem _ h
theorem compR_sub : ∀ {l : List Int} {a : Int}, (compR a l).Sublist l
 | [], _ => List.Sublist.refl _
 | x :: r, a => by
   rw [compR]
   split
   · exact (compR_sub).cons _
   · exact (compR_sub).cons₂ _
theorem compact_sub {l : List Int} : (compactL l).Sublist l := by
 cases l with
 | nil => exact List.Sublist.refl _
 | cons x r => rw [compactL]; exact (compR_sub).cons₂ _
theorem dues_sorted (l : List Task) (b : Int) : (duesV l b).Pairwise (· ≤ ·) := by
 have h : (sortL (allsV b l)).Pairwise (fun a b => decide (a ≤ b) = true) := List.pairwise_mergeSort (by intro a b c; simp; omega) (by intro a b; simp; omega) _
 exact (h.imp (by intro a b; simp)).sublist compact_sub
theorem dues_in {l : List Task} {b n : Int} (ho : l.all okT = true) {t : Task} (ht : t ∈ l) (h1 : t.due ≤ n) (h2 : t.every ∣ n - t.due) (h3 : n < b) : n ∈ duesV l b :=
 compact_in ((List.mergeSort_perm _ _).mem_iff.2 (alls_in ho ht h1 h2 h3))
theorem scan_spec {l : List Task} {s : Set} : ∀ {d : List Int}, d.Pairwise (· ≤ ·) →
   (scanV l s d = (true, 0, 0) ∧ ∀ m ∈ d, demS m l ≤ (boundV s m false).1) ∨
   ∃ b ∈ d, scanV l s d = (false, b, 0) ∧ (boundV s b false).1 < demS b l ∧ ∀ m ∈ d, m < b → demS m l ≤ (boundV s m false).1
 | [], _ => .inl ⟨rfl, fun _ h => by simp at h⟩
 | x :: r, h => by
   rw [List.pairwise_cons] at h
   rw [scanV]
   split
   · rename_i hx
     refine .inr ⟨x, List.mem_cons_self .., rfl, hx, fun m hm hlt => ?_⟩
     rcases List.mem_cons.1 hm with rfl | hm
     · omega
     · have := h.1 m hm; omega
   · rename_i hx
     rcases scan_spec (l := l) (s := s) h.2 with ⟨h1, h2⟩ | ⟨b, hb, h1, h2, h3⟩
     · refine .inl ⟨h1, fun m hm => ?_⟩
       rcases List.mem_cons.1 hm with rfl | hm
       · omega
       · exact h2 m hm
     · refine .inr ⟨b, List.mem_cons_of_mem _ hb, h1, h2, fun m hm hlt => ?_⟩
       rcases List.mem_cons.1 hm with rfl | hm
       · omega
       · exact h3 m hm hlt
theorem leastV_shift {s : Set} (h : Right s) {n P : Int} (hn : 0 ≤ n) (hP : 0 ≤ P) (hd : s.size ∣ P) : leastV s (n + P) = leastV s n + leastV s P := by
 have hs := h.s1
 obtain ⟨q, rfl⟩ := hd
 have hq : 0 ≤ q := by
   rcases Int.lt_or_le q 0 with h4 | h4
   · have : s.size * q ≤ s.size * (-1) := Int.mul_le_mul_of_nonneg_left (by omega) (by omega)
     omega
   · exact h4
 have hm : (s.size * q) % s.size = 0 := Int.mul_emod_right ..
 have hdv : s.size * q / s.size = q := Int.mul_ediv_cancel_left _ (by omega)
 have hw : ∀ t, 0 ≤ t → win s (n + s.size * q) t = win s n t + q * long s.spans := fun t ht => by
   rw [win_split h (by omega) ht, win_split h hn ht, Int.add_mul_emod_self_left, show n + s.size * q = n + q * s.size by rw [Int.mul_comm], Int.add_mul_ediv_right _ _ (by omega), Int.add_mul]
   omega
 have hP2 : leastV s (s.size * q) = q * long s.spans := by
   obtain ⟨-, t, ht, e⟩ := leastV_spec h hP
   rw [e, win_split h hP ht, hm, hdv]
   unfold win; rw [Int.add_zero]; omega
 obtain ⟨a1, t, a2, a3⟩ := leastV_spec h hn
 obtain ⟨b1, u, b2, b3⟩ := leastV_spec h (show 0 ≤ n + s.size * q by omega)
 have c1 := b1 t a2
 have c2 := a1 u b2
 rw [hw _ a2] at c1
 rw [hw _ b2] at b3
 rw [hP2]; omega
theorem leastV_le {s : Set} (h : Right s) {n : Int} (hn : 0 ≤ n) : 0 ≤ leastV s n ∧ leastV s n ≤ n := by
 obtain ⟨-, t, ht, e⟩ := leastV_spec h hn
 rw [e]; exact win_bd h hn ht
theorem round_dvd {l : List Task} (h : (roundV l).2 = 0) : ∀ t ∈ l, t.every ∣ (roundV l).1 := fun t ht => by
 obtain ⟨h1, h2, h3, h4, h5⟩ := round_ok h
 have ho := okT_iff.1 (List.all_eq_true.1 h2 t ht)
 have := lcmL_mem (l := l.map (·.every)) (List.mem_map_of_mem ht)
 rw [h5]
 exact Int.natAbs_dvd.1 (Int.natCast_dvd_natCast.2 this)
theorem two_dvd {a b : Int} (h : (lcmV [a, b]).2 = 0) : a ∣ (lcmV [a, b]).1 ∧ b ∣ (lcmV [a, b]).1 := by
 obtain ⟨h1, h2, h3, h4, h5⟩ := lcmV_ok h
 rw [h3]
 exact ⟨Int.natAbs_dvd.1 (Int.natCast_dvd_natCast.2 (lcmL_mem (by simp))), Int.natAbs_dvd.1 (Int.natCast_dvd_natCast.2 (lcmL_mem (by simp)))⟩
structure FtOk (l : List Task) (s : Set) (p : Int) : Prop where
 ok : l.all okT = true
 len : l.length ≤ 16
 rt : Right s
 p1 : 1 ≤ p
 p2 : p ≤ 50000
 ev : ∀ t ∈ l, t.every ∣ p
 sz : s.size ∣ p
theorem upto_all {l : List Task} {s : Set} {p : Int} (h : FtOk l s p) {b : Int} (hb0 : 1 ≤ b) (hb : b ≤ p + 1) (hd : ∀ m ∈ duesV l (p + 1), m < b → demS m l ≤ (boundV s m false).1) :
   ∀ k : Nat, (k : Int) < b → demS k l ≤ leastV s k
 | 0, _ => by
   rw [show ((0 : Nat) : Int) = 0 from rfl, demS_zero h.ok]
   exact (leastV_le h.rt (Int.le_refl 0)).1
 | k + 1, hk => by
   have hp2 := h.p2
   have ih := upto_all h hb0 hb hd k (by omega)
   rw [Int.natCast_add, Int.natCast_one] at *
   by_cases hx : ∃ t ∈ l, t.due ≤ (k : Int) + 1 ∧ t.every ∣ (k : Int) + 1 - t.due
   · obtain ⟨t, ht, h1, h2⟩ := hx
     have := hd _ (dues_in h.ok ht h1 h2 (by omega)) hk
     rwa [leastV_bound h.rt (by omega) (by omega)] at this
   · rw [demS_step (by omega) h.ok fun t ht q => hx ⟨t, ht, q⟩]
     have := (leastV_step h.rt (n := k) (by omega)).1
     omega
theorem ever {l : List Task} {s : Set} {p : Int} (h : FtOk l s p) (hd : ∀ m ∈ duesV l (p + 1), demS m l ≤ (boundV s m false).1) {n : Int} (hn : 0 ≤ n) : demS n l ≤ leastV s n := by
 have hb : ∀ k : Nat, (k : Int) < p + 1 → demS k l ≤ leastV s k := upto_all h (by have := h.p1; omega) (Int.le_refl _) fun m hm _ => hd m hm
 have hp1 := h.p1
 have hp := hb p.toNat (by omega)
 rw [show (p.toNat : Int) = p by omega] at hp
 have key : ∀ q : Nat, ∀ r : Int, 0 ≤ r → r < p → demS (r + p * q) l ≤ leastV s (r + p * q) := by
   intro q
   induction q with
   | zero =>
     intro r h0 h1
     have := hb r.toNat (by omega)
     rwa [show ((r.toNat : Nat) : Int) = r + p * ((0 : Nat) : Int) by simp; omega] at this
   | succ q ih =>
     intro r h0 h1
     have := ih r h0 h1
     have hpq := Int.mul_nonneg (show 0 ≤ p by omega) (show 0 ≤ (q : Int) by omega)
     rw [Int.natCast_add, Int.natCast_one, Int.mul_add, Int.mul_one, ← Int.add_assoc]
     have e1 := demS_shift (n := r + p * q) (P := p) (by omega) (by omega) h.ok h.ev
     have e2 := demS_shift (n := 0) (P := p) (by omega) (by omega) h.ok h.ev
     have e3 := leastV_shift h.rt (n := r + p * q) (P := p) (by omega) (by omega) h.sz
     rw [demS_zero h.ok, Int.zero_add] at e2
     rw [e1, e3]; omega
 have a1 := Int.emod_nonneg n (show p ≠ 0 by omega)
 have a2 := Int.emod_lt_of_pos n (show 0 < p by omega)
 have a3 := Int.emod_add_mul_ediv n p
 have a4 := Int.ediv_nonneg hn (show 0 ≤ p by omega)
 have := key (n / p).toNat (n % p) a1 a2
 rwa [show ((n / p).toNat : Int) = n / p by omega, a3] at this
theorem fits_rt {l : List Task} {s : Set} (h : (fitsV l s).2.2 = 0) : (roundV l).2 = 0 ∧ (roundV l).1 ≤ 50000 ∧ (lcmV [(roundV l).1, s.size]).2 = 0 ∧ FtOk l s (lcmV [(roundV l).1, s.size]).1 ∧
   fitsV l s = scanV l s (duesV l ((lcmV [(roundV l).1, s.size]).1 + 1)) := by
 unfold fitsV at h ⊢
 by_cases h1 : ¬ tchkV l = 0
 · rw [if_pos h1] at h; exact absurd h h1
 · rw [if_neg h1] at h ⊢
   by_cases h2 : ¬ checkV s = 0
   · rw [if_pos h2] at h; exact absurd h h2
   · rw [if_neg h2] at h ⊢
     by_cases h3 : ¬ (roundV l).2 = 0 ∨ 50000 < (roundV l).1
     · rw [if_pos h3] at h; cases h
     · rw [if_neg h3] at h ⊢
       by_cases h4 : ¬ (lcmV [(roundV l).1, s.size]).2 = 0 ∨ 50000 < (lcmV [(roundV l).1, s.size]).1
       · rw [if_pos h4] at h; cases h
       · rw [if_neg h4]
         have r0 : (roundV l).2 = 0 := Decidable.not_not.1 fun q => h3 (.inl q)
         have r1 : (lcmV [(roundV l).1, s.size]).2 = 0 := Decidable.not_not.1 fun q => h4 (.inl q)
         obtain ⟨q1, q2, q3, q4, q5⟩ := round_ok r0
         obtain ⟨k1, k2, k3, k4, k5⟩ := lcmV_ok r1
         have d1 := two_dvd r1
         exact ⟨r0, by omega, r1, ⟨q2, q1, check_iff.1 (Decidable.not_not.1 h2), by omega, by omega, fun t ht => Int.dvd_trans (round_dvd r0 t ht) d1.1, d1.2⟩, rfl⟩
theorem fits_yes {l : List Task} {s : Set} (h : (fitsV l s).2.2 = 0) (hy : (fitsV l s).1 = true) : (fitsV l s).2.1 = 0 ∧ ∀ n, 0 ≤ n → demS n l ≤ leastV s n := by
 obtain ⟨-, -, -, h2, h3⟩ := fits_rt h
 rcases scan_spec (l := l) (s := s) (dues_sorted l ((lcmV [(roundV l).1, s.size]).1 + 1)) with ⟨e, k⟩ | ⟨b, -, e, -⟩
 · rw [h3, e]; exact ⟨rfl, fun n hn => ever h2 k hn⟩
 · rw [h3, e] at hy; cases hy

end Go.Proofs.YtnjngpjkhddnfaaGreatDoor
