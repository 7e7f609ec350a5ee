/- The program's functions, walked: SpanP. -/
import Derived.Test.YtnjngpjkhddnfaaGreatDoorSpan
set_option linter.all false
namespace Go.Proofs.YtnjngpjkhddnfaaGreatDoor
open Go Go.Abs
/- The plain laws of sets of times. -/
theorem part0 {t : Int} : ∀ {l : List Span}, (∀ x ∈ l, t ≤ x.frm ∧ x.frm < x.to) → part t l = 0
 | [], _ => rfl
 | x :: r, h => by
   have h1 := h x (by simp)
   rw [part, part0 fun y hy => h y (by simp [hy])]
   unfold mx0 mn
   repeat' split
   all_goals omega
theorem partS {t : Int} : ∀ {l : List Span}, (∀ x ∈ l, x.frm < x.to ∧ x.to ≤ t) → part t l = long l
 | [], _ => rfl
 | x :: r, h => by
   have h1 := h x (by simp)
   rw [part, long, partS fun y hy => h y (by simp [hy])]
   unfold mx0 mn
   repeat' split
   all_goals omega
theorem part_step {size t : Int} : ∀ {l : List Span} {last : Int}, okSp size last l = true → part t l ≤ part (t + 1) l ∧ part (t + 1) l ≤ part t l + 1
 | [], _, _ => by simp [part]
 | x :: r, last, h => by
   obtain ⟨h1, h2, h3, h4⟩ := okSp_iff.1 h
   have i := part_step (t := t) h4
   have b := (okSp_bd h4).2.2
   by_cases ht : t < x.to
   · have e1 := part0 (t := t) (l := r) fun y hy => by have := b y hy; omega
     have e2 := part0 (t := t + 1) (l := r) fun y hy => by have := b y hy; omega
     rw [part, part, e1, e2]
     unfold mx0 mn
     repeat' split
     all_goals omega
   · have e : mx0 (mn x.to (t + 1) - x.frm) = mx0 (mn x.to t - x.frm) := by
       unfold mn
       rw [if_neg (by omega)]
       by_cases h5 : t < x.to
       · omega
       · rw [if_neg h5]
     rw [part, part, e]; omega
theorem divmod {s : Set} (h : Right s) {t : Int} (h0 : 0 ≤ t) : t.tdiv s.size = t / s.size ∧ t.tmod s.size = t % s.size ∧ 0 ≤ t % s.size ∧ t % s.size < s.size ∧ t = t / s.size * s.size + t % s.size := by
 have := h.s1
 refine ⟨Int.tdiv_eq_ediv_of_nonneg h0, Int.tmod_eq_emod_of_nonneg h0, Int.emod_nonneg _ (by omega), Int.emod_lt_of_pos _ (by omega), ?_⟩
 have := Int.mul_ediv_add_emod t s.size
 rw [Int.mul_comm] at this; omega
theorem upto_at {s : Set} (h : Right s) {q m : Int} (hq : 0 ≤ q) (hm : 0 ≤ m) (hm2 : m ≤ s.size) : uptoV s (q * s.size + m) = q * long s.spans + part m s.spans := by
 have h1 := h.s1
 have h3 : 0 ≤ q * s.size := Int.mul_nonneg hq (by omega)
 obtain ⟨e1, e2, -, -, -⟩ := divmod h (t := q * s.size + m) (by omega)
 unfold uptoV
 rw [e1, e2]
 by_cases hlt : m < s.size
 · rw [show q * s.size + m = m + q * s.size by omega, Int.add_mul_ediv_right _ _ (by omega), Int.add_mul_emod_self_right, Int.ediv_eq_zero_of_lt hm hlt, Int.emod_eq_of_lt hm hlt, Int.zero_add]
 · have : m = s.size := by omega
   subst this
   rw [show q * s.size + s.size = (q + 1) * s.size by rw [Int.add_mul]; omega, Int.mul_ediv_cancel _ (by omega), Int.mul_emod_left]
   rw [part0 (t := 0) fun x hx => by have := (okSp_bd h.ok).2.2 x hx; omega, partS (t := s.size) fun x hx => by have := (okSp_bd h.ok).2.2 x hx; omega]
   rw [Int.add_mul]; omega
theorem upto_frame {s : Set} (h : Right s) {t : Int} (h0 : 0 ≤ t) : uptoV s (t + s.size) = uptoV s t + long s.spans := by
 obtain ⟨-, -, e3, e4, e5⟩ := divmod h h0
 have hq : 0 ≤ t / s.size := Int.ediv_nonneg h0 (by have := h.s1; omega)
 have a := upto_at h hq e3 (by omega)
 have b := upto_at h (show 0 ≤ t / s.size + 1 by omega) e3 (by omega)
 rw [← e5] at a
 rw [Int.add_mul] at b
 rw [show t + s.size = t / s.size * s.size + 1 * s.size + t % s.size by omega, b, a, Int.add_mul]
 omega
theorem upto_frames {s : Set} (h : Right s) {t : Int} (h0 : 0 ≤ t) : ∀ q : Nat, uptoV s (t + q * s.size) = uptoV s t + q * long s.spans
 | 0 => by simp
 | q + 1 => by
   have ih := upto_frames h h0 q
   have h1 : 0 ≤ (q : Int) * s.size := Int.mul_nonneg (by omega) (by have := h.s1; omega)
   have := upto_frame h (t := t + q * s.size) (by omega)
   rw [Int.natCast_add, Int.natCast_one, Int.add_mul, Int.add_mul, show t + ((q : Int) * s.size + 1 * s.size) = t + q * s.size + s.size by omega, this, ih]
   omega
theorem upto_step {s : Set} (h : Right s) {t : Int} (h0 : 0 ≤ t) : uptoV s t ≤ uptoV s (t + 1) ∧ uptoV s (t + 1) ≤ uptoV s t + 1 := by
 obtain ⟨-, -, e3, e4, e5⟩ := divmod h h0
 have hq : 0 ≤ t / s.size := Int.ediv_nonneg h0 (by have := h.s1; omega)
 have a := upto_at h hq e3 (by omega)
 have b := upto_at h hq (show 0 ≤ t % s.size + 1 by omega) (by omega)
 rw [← e5] at a
 rw [← Int.add_assoc, ← e5] at b
 have := part_step (t := t % s.size) h.ok
 omega
theorem upto_lip {s : Set} (h : Right s) {a : Int} (h0 : 0 ≤ a) : ∀ k : Nat, uptoV s a ≤ uptoV s (a + k) ∧ uptoV s (a + k) ≤ uptoV s a + k
 | 0 => by simp
 | k + 1 => by
   have ih := upto_lip h h0 k
   have := upto_step h (t := a + k) (by omega)
   rw [Int.natCast_add, Int.natCast_one, ← Int.add_assoc]
   omega
theorem upto_le {s : Set} (h : Right s) {a b : Int} (h0 : 0 ≤ a) (hab : a ≤ b) : uptoV s a ≤ uptoV s b ∧ uptoV s b ≤ uptoV s a + (b - a) := by
 have := upto_lip h h0 (b - a).toNat
 rw [show a + ((b - a).toNat : Int) = b by omega, show ((b - a).toNat : Int) = b - a by omega] at this
 exact this
theorem count_of {s : Set} (h : Right s) {a b : Int} (h0 : 0 ≤ a) (hab : a ≤ b) (hb : b ≤ 1099511627776) : countV s a b = (uptoV s b - uptoV s a, 0) := by
 rw [countV, if_pos (check_iff.2 h), if_neg (by omega)]

theorem part_at {size : Int} : ∀ {l : List Span} {last m : Int}, okSp size last l = true → last ≤ m →
   (∃ x ∈ l, x.frm ≤ m ∧ m < x.to ∧ part x.to l - part m l = x.to - m ∧ part m l - part x.frm l = m - x.frm) ∨ (∃ x ∈ l, x.to ≤ m ∧ part m l = part x.to l) ∨ ((∀ x ∈ l, m < x.frm) ∧ part m l = 0)
 | [], _, _, _, _ => .inr (.inr ⟨by simp, rfl⟩)
 | x :: r, last, m, h, hm => by
   obtain ⟨h1, h2, h3, h4⟩ := okSp_iff.1 h
   have b := (okSp_bd h4).2.2
   have z : ∀ t, t ≤ x.to → part t r = 0 := fun t ht => part0 fun y hy => by have := b y hy; omega
   by_cases hlt : m < x.frm
   · refine .inr (.inr ⟨fun y hy => ?_, ?_⟩)
     · rcases List.mem_cons.1 hy with rfl | hy
       · exact hlt
       · have := b y hy; omega
     · rw [part, z m (by omega)]; unfold mx0 mn; repeat' split
       all_goals omega
   · by_cases hin : m < x.to
     · refine .inl ⟨x, by simp, by omega, hin, ?_, ?_⟩
       · rw [part, part, z m (by omega), z x.to (by omega)]; unfold mx0 mn; repeat' split
         all_goals omega
       · rw [part, part, z m (by omega), z x.frm (by omega)]; unfold mx0 mn; repeat' split
         all_goals omega
     · have hx : ∀ t, x.to ≤ t → mx0 (mn x.to t - x.frm) = x.to - x.frm := fun t ht => by unfold mx0 mn; repeat' split
                                                                                          all_goals omega
       rcases part_at (m := m) h4 (by omega) with ⟨y, hy, a1, a2, a3, a4⟩ | ⟨y, hy, a1, a2⟩ | ⟨a1, a2⟩
       · have := b y hy
         refine .inl ⟨y, by simp [hy], a1, a2, ?_, ?_⟩
         · rw [part, part, hx _ (by omega), hx _ (by omega)]; omega
         · rw [part, part, hx _ (by omega), hx _ (by omega)]; omega
       · have := b y hy
         refine .inr (.inl ⟨y, by simp [hy], a1, ?_⟩)
         rw [part, part, hx _ (by omega), hx _ (by omega), a2]
       · refine .inr (.inl ⟨x, by simp, by omega, ?_⟩)
         rw [part, part, hx _ (by omega), hx _ (Int.le_refl _), a2, z _ (Int.le_refl _)]

end Go.Proofs.YtnjngpjkhddnfaaGreatDoor
