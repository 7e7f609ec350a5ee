/- What fits fits with tasks less, plain. -/
import Derived.Test.YtnjngpjkhddnfaaGreatDoorTaskP
set_option linter.all false
namespace Go.Proofs.YtnjngpjkhddnfaaGreatDoor
open Go Go.Abs

theorem lcmV_go {l : List Int} (h1 : l.length ≤ 100) (h2 : l.all okN = true) (h3 : lcmL l ≤ 1099511627776) : lcmV l = (((lcmL l : Nat) : Int), 0) := by
 rw [lcmV, if_neg (by omega), if_pos h2, lcmR_eq l 1 (by decide) (by decide) h2, show (1 : Int).natAbs = 1 from rfl, Nat.lcm_one_left, if_pos h3]
theorem all_every {l : List Task} (h : l.all okT = true) : (l.map (·.every)).all okN = true := by
 rw [List.all_eq_true]
 intro x hx
 obtain ⟨t, ht, rfl⟩ := List.mem_map.1 hx
 have := okT_iff.1 (List.all_eq_true.1 h t ht)
 simp only [okN, decide_eq_true_eq]; omega
theorem fits_as {l m : List Task} {s r : Set} (h : (fitsV l s).2.2 = 0) (hlen : m.length ≤ 16) (hok : m.all okT = true) (hev : ∀ t ∈ m, ∃ u ∈ l, t.every = u.every) (hR : Right r) (hs : r.size = s.size)
   (hd : ∀ n, 0 ≤ n → demS n m ≤ leastV r n) : (fitsV m r).2.2 = 0 ∧ (fitsV m r).1 = true := by
 obtain ⟨r0, r1, r2, fo, -⟩ := fits_rt h
 obtain ⟨q1, q2, q3, q4, q5⟩ := round_ok r0
 have hdv : lcmL (m.map (·.every)) ∣ lcmL (l.map (·.every)) := lcmL_max fun x hx => by
   obtain ⟨t, ht, rfl⟩ := List.mem_map.1 hx
   obtain ⟨u, hu, e⟩ := hev t ht
   rw [e]; exact lcmL_mem (List.mem_map_of_mem hu)
 have hle : lcmL (m.map (·.every)) ≤ lcmL (l.map (·.every)) := Nat.le_of_dvd (by omega) hdv
 have hpos := lcmL_pos (all_every hok)
 have er : roundV m = (((lcmL (m.map (·.every)) : Nat) : Int), 0) := by
   rw [roundV, if_pos (tchk_iff.2 ⟨hlen, hok⟩), lcmV_go (by rw [List.length_map]; omega) (all_every hok) (by omega)]
 have hp2 := fo.p2
 obtain ⟨k1, k2, k3, k4, k5⟩ := lcmV_ok r2
 have hR1 := hR.s1
 have hR2 := hR.s2
 have hdv2 : lcmL [(roundV m).1, r.size] ∣ lcmL [(roundV l).1, s.size] := lcmL_max fun x hx => by
   rcases List.mem_cons.1 hx with rfl | hx
   · refine Nat.dvd_trans ?_ (lcmL_mem (x := (roundV l).1) (by simp))
     rw [er, q5, Int.natAbs_natCast, Int.natAbs_natCast]; exact hdv
   · have : x = s.size := by simp at hx; omega
     rw [this]
     exact lcmL_mem (by simp)
 have hle2 := Nat.le_of_dvd (by omega) hdv2
 have hN : ([(roundV m).1, r.size] : List Int).all okN = true := by
   rw [er]
   simp only [List.all_cons, List.all_nil, okN, Bool.and_true, Bool.and_eq_true, decide_eq_true_eq]
   omega
 have el := lcmV_go (l := [(roundV m).1, r.size]) (show 2 ≤ 100 by decide) hN (by omega)
 have ef : fitsV m r = scanV m r (duesV m ((lcmV [(roundV m).1, r.size]).1 + 1)) := by
   rw [fitsV, if_neg (fun q => q (tchk_iff.2 ⟨hlen, hok⟩)), if_neg (fun q => q (check_iff.2 hR)), if_neg (fun q => by rcases q with q | q; exact q (by rw [er]); rw [er] at q; dsimp only at q; omega),
     if_neg (fun q => by rcases q with q | q; exact q (by rw [el]); rw [el] at q; dsimp only at q; omega)]
 rw [ef]
 rcases scan_spec (l := m) (s := r) (dues_sorted m ((lcmV [(roundV m).1, r.size]).1 + 1)) with ⟨e, k⟩ | ⟨b, hb, e, k1', k2'⟩
 · rw [e]; exact ⟨rfl, rfl⟩
 · exfalso
   have hbb := dues_mem hok hb
   rw [el] at hbb
   dsimp only at hbb
   rw [leastV_bound hR (by omega) (by omega)] at k1'
   have := hd b (by omega)
   dsimp only at k1'
   omega
theorem demS_sub {n : Int} (hn : 0 ≤ n) {m l : List Task} (h : m.Sublist l) (ho : l.all okT = true) : m.all okT = true ∧ demS n m ≤ demS n l := by
 induction h with
 | slnil => exact ⟨rfl, Int.le_refl _⟩
 | cons a _ ih =>
   simp only [List.all_cons, Bool.and_eq_true] at ho
   obtain ⟨i1, i2⟩ := ih ho.2
   have := demS_nn hn (l := [a]) (by simp [ho.1])
   rw [demS, demS] at this
   exact ⟨i1, by rw [demS]; omega⟩
 | cons_cons a _ ih =>
   simp only [List.all_cons, Bool.and_eq_true] at ho
   obtain ⟨i1, i2⟩ := ih ho.2
   exact ⟨by simp [ho.1, i1], by rw [demS, demS]; omega⟩

end Go.Proofs.YtnjngpjkhddnfaaGreatDoor
