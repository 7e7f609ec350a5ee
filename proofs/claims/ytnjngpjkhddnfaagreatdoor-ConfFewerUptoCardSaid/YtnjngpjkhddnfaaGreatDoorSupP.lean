/- The program's functions, walked: SupP. -/
import Derived.Test.YtnjngpjkhddnfaaGreatDoorSpanP
import Derived.Test.YtnjngpjkhddnfaaGreatDoorSupply
set_option linter.all false
namespace Go.Proofs.YtnjngpjkhddnfaaGreatDoor
open Go Go.Abs
/- The plain laws of supply. -/
def win (s : Set) (n t : Int) : Int := uptoV s (t + n) - uptoV s t
theorem win_frame {s : Set} (h : Right s) {n t : Int} (hn : 0 ≤ n) (h0 : 0 ≤ t) : win s n (t + s.size) = win s n t := by
 unfold win
 rw [show t + s.size + n = t + n + s.size by omega, upto_frame h h0, upto_frame h (by omega)]; omega
theorem win_frames {s : Set} (h : Right s) {n t : Int} (hn : 0 ≤ n) (h0 : 0 ≤ t) (q : Nat) : win s n (t + q * s.size) = win s n t := by
 unfold win
 rw [show t + (q : Int) * s.size + n = t + n + q * s.size by omega, upto_frames h h0, upto_frames h (by omega)]; omega
theorem win_bd {s : Set} (h : Right s) {n t : Int} (hn : 0 ≤ n) (h0 : 0 ≤ t) : 0 ≤ win s n t ∧ win s n t ≤ n := by
 have := upto_le h h0 (show t ≤ t + n by omega)
 unfold win; omega
theorem last_get {size : Int} : ∀ {l : List Span} {last : Int}, okSp size last l = true → l ≠ [] → ∃ x ∈ l, ∀ y ∈ l, y.to ≤ x.to
 | [], _, _, h => absurd rfl h
 | x :: r, last, h, _ => by
   obtain ⟨h1, h2, h3, h4⟩ := okSp_iff.1 h
   by_cases hr : r = []
   · exact ⟨x, by simp, fun y hy => by rw [hr] at hy; simp at hy; rw [hy]; exact Int.le_refl _⟩
   · obtain ⟨y, hy, hm⟩ := last_get h4 hr
     have b := (okSp_bd h4).2.2 y hy
     refine ⟨y, by simp [hy], fun z hz => ?_⟩
     rcases List.mem_cons.1 hz with rfl | hz
     · omega
     · exact hm z hz

theorem win_end {s : Set} (h : Right s) (hne : s.spans ≠ []) {n t : Int} (hn : 0 ≤ n) (h0 : 0 ≤ t) : ∃ x ∈ s.spans, win s n x.to ≤ win s n t := by
 have hs1 := h.s1
 obtain ⟨-, -, e3, e4, e5⟩ := divmod h h0
 have hq : 0 ≤ t / s.size := Int.ediv_nonneg h0 (by omega)
 obtain ⟨q, hqn⟩ : ∃ q : Nat, t / s.size = q := ⟨(t / s.size).toNat, by omega⟩
 have key : win s n t = win s n (t % s.size) := by
   have := win_frames h hn e3 q
   rw [← hqn, show t % s.size + t / s.size * s.size = t by omega] at this
   exact this
 rw [key]
 generalize hm : t % s.size = m at *
 have u0 : ∀ m, 0 ≤ m → m ≤ s.size → uptoV s m = part m s.spans := fun m h1 h2 => by have := upto_at h (q := 0) (Int.le_refl _) h1 h2; simpa using this
 rcases part_at (m := m) h.ok (by omega) with ⟨x, hx, a1, a2, a3, a4⟩ | ⟨x, hx, a1, a2⟩ | ⟨a1, a2⟩
 · have bx := (okSp_bd h.ok).2.2 x hx
   refine ⟨x, hx, ?_⟩
   unfold win
   rw [u0 x.to (by omega) (by omega), u0 m e3 (by omega)]
   have := upto_le h (show 0 ≤ m + n by omega) (show m + n ≤ x.to + n by omega)
   omega
 · have bx := (okSp_bd h.ok).2.2 x hx
   refine ⟨x, hx, ?_⟩
   unfold win
   rw [u0 x.to (by omega) (by omega), u0 m e3 (by omega), a2]
   have := upto_le h (show 0 ≤ x.to + n by omega) (show x.to + n ≤ m + n by omega)
   omega
 · obtain ⟨x, hx, hl⟩ := last_get h.ok hne
   have bx := (okSp_bd h.ok).2.2 x hx
   refine ⟨x, hx, ?_⟩
   rw [← win_frame h hn e3]
   unfold win
   have e1 : uptoV s (m + s.size) = uptoV s x.to := by
     rw [upto_frame h e3, u0 m e3 (by omega), a2, u0 x.to (by omega) (by omega), partS fun y hy => by have := (okSp_bd h.ok).2.2 y hy; have := hl y hy; omega]
     omega
   rw [e1]
   have := upto_le h (show 0 ≤ x.to + n by omega) (show x.to + n ≤ m + s.size + n by omega)
   omega
theorem count_win {s : Set} (h : Right s) {n t : Int} (hn : 0 ≤ n) (h0 : 0 ≤ t) (hb : t + n ≤ 1099511627776) : (countV s t (t + n)).1 = win s n t := by
 rw [count_of h h0 (by omega) hb]; rfl
theorem best_least {s : Set} (h : Right s) {n : Int} (hn : 0 ≤ n) (hn2 : n ≤ 549755813888) : ∀ (l : List Span) (b : Int), (∀ x ∈ l, 0 ≤ x.frm ∧ x.to ≤ s.size ∧ x.frm < x.to) →
   (0 ≤ b → bestV s n false l b ≤ b) ∧ (∀ x ∈ l, bestV s n false l b ≤ win s n x.to) ∧ (bestV s n false l b = b ∨ ∃ x ∈ l, bestV s n false l b = win s n x.to) ∧ (l ≠ [] → 0 ≤ bestV s n false l b)
 | [], b, _ => ⟨fun _ => Int.le_refl _, by simp, .inl rfl, fun h => absurd rfl h⟩
 | x :: r, b, hl => by
   have h1 := hl x (by simp)
   have hs := h.s2
   have hw := count_win h hn (show 0 ≤ x.to by omega) (by omega)
   have hbd := win_bd h hn (show 0 ≤ x.to by omega)
   have ih := best_least h hn hn2 r
   simp only [bestV, Bool.false_eq_true, if_false, hw]
   by_cases hc : b < 0 ∨ decide (b < win s n x.to) = false
   · rw [if_pos hc]
     obtain ⟨i1, i2, i3, i4⟩ := ih (win s n x.to) fun y hy => hl y (by simp [hy])
     have i1 := i1 hbd.1
     refine ⟨fun hb => ?_, fun y hy => ?_, .inr ?_, fun _ => ?_⟩
     · rcases hc with hc | hc
       · omega
       · simp at hc; omega
     · rcases List.mem_cons.1 hy with rfl | hy
       · exact i1
       · exact i2 y hy
     · rcases i3 with e | ⟨y, hy, e⟩
       · exact ⟨x, by simp, e⟩
       · exact ⟨y, by simp [hy], e⟩
     · rcases i3 with e | ⟨y, hy, e⟩
       · rw [e]; exact hbd.1
       · rw [e]; exact (win_bd h hn (by have := hl y (by simp [hy]); omega)).1
   · rw [if_neg hc]
     have hb : 0 ≤ b ∧ b < win s n x.to := by
       constructor
       · rcases Int.lt_or_le b 0 with q | q
         · exact absurd (.inl q) hc
         · exact q
       · rcases Int.lt_or_le b (win s n x.to) with q | q
         · exact q
         · exact absurd (.inr (by simp; omega)) hc
     obtain ⟨i1, i2, i3, i4⟩ := ih b fun y hy => hl y (by simp [hy])
     have i1 := i1 hb.1
     refine ⟨fun _ => i1, fun y hy => ?_, ?_, fun _ => ?_⟩
     · rcases List.mem_cons.1 hy with rfl | hy
       · omega
       · exact i2 y hy
     · exact i3.imp id fun ⟨y, hy, e⟩ => ⟨y, by simp [hy], e⟩
     · rcases i3 with e | ⟨y, hy, e⟩
       · rw [e]; exact hb.1
       · rw [e]; exact (win_bd h hn (by have := hl y (by simp [hy]); omega)).1
theorem win_none {s : Set} (h : Right s) (he : s.spans = []) {n t : Int} : win s n t = 0 := by
 unfold win uptoV; rw [he]; simp [long, part]
theorem right_all {s : Set} (h : Right s) : ∀ x ∈ s.spans, 0 ≤ x.frm ∧ x.to ≤ s.size ∧ x.frm < x.to := fun x hx => by have := (okSp_bd h.ok).2.2 x hx; omega
theorem least_spec {s : Set} (h : Right s) {n : Int} (hn : 0 ≤ n) (hn2 : n ≤ 549755813888) :
   ∃ L, boundV s n false = (L, 0) ∧ (∀ t, 0 ≤ t → L ≤ win s n t) ∧ ∃ t, 0 ≤ t ∧ t ≤ s.size ∧ L = win s n t := by
 have e : boundV s n false = (mx0 (bestV s n false s.spans (-1)), 0) := by rw [boundV, if_pos (check_iff.2 h), if_neg (by omega)]
 refine ⟨_, e, ?_⟩
 by_cases he : s.spans = []
 · rw [he, bestV]
   exact ⟨fun t _ => by rw [win_none h he]; decide, 0, Int.le_refl _, by have := h.s1; omega, by rw [win_none h he]; decide⟩
 · obtain ⟨i1, i2, i3, i4⟩ := best_least h hn hn2 s.spans (-1) (right_all h)
   have i4 := i4 he
   have em : mx0 (bestV s n false s.spans (-1)) = bestV s n false s.spans (-1) := by unfold mx0; split <;> omega
   rw [em]
   refine ⟨fun t ht => ?_, ?_⟩
   · obtain ⟨x, hx, hle⟩ := win_end h he hn ht
     have := i2 x hx; omega
   · rcases i3 with e | ⟨x, hx, e⟩
     · omega
     · have := right_all h x hx
       exact ⟨x.to, by omega, by omega, e⟩

end Go.Proofs.YtnjngpjkhddnfaaGreatDoor
