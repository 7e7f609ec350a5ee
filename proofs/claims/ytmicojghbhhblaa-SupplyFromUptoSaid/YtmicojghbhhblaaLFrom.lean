/- The program's functions, walked: LFrom. -/
import Derived.Test.YtmicojghbhhblaaFrom
import Derived.Test.YtmicojghbhhblaaLGalois
set_option linter.all false
namespace Go.Proofs.Ytmicojghbhhblaa
open Go Go.Abs
theorem bsN_congr {p q : Int → Bool} : ∀ (f : Nat) (lo hi : Int), (hi - lo).toNat ≤ f → (∀ m, lo ≤ m → m < hi → p m = q m) → bsN p lo hi = bsN q lo hi
  | 0, lo, hi, h, _ => by rw [bsN_ge (by omega), bsN_ge (by omega)]
  | f + 1, lo, hi, h, hpq => by
    by_cases hlt : lo < hi
    · rw [bsN_lt hlt, bsN_lt hlt, hpq _ (show lo ≤ (lo + hi) / 2 by omega) (by omega), bsN_congr f lo ((lo + hi) / 2) (by omega) fun m a b => hpq m a (by omega), bsN_congr f ((lo + hi) / 2 + 1) hi (by omega) fun m a b => hpq m (by omega) b]
    · rw [bsN_ge hlt, bsN_ge hlt]
theorem okSp_get {size : Int} : ∀ {l : List Span} {last : Int} {i j : Nat}, okSp size last l = true → i < j → j < l.length → (l.getD i Dat.d0).to < (l.getD j Dat.d0).frm
  | [], _, _, _, _, _, h => by simp at h
  | x :: r, last, i, 0, _, h, _ => by omega
  | x :: r, last, 0, j + 1, ho, _, hj => by
    obtain ⟨h1, h2, h3, h4⟩ := okSp_iff.1 ho
    have hj' : j < r.length := by simpa using hj
    have := (okSp_bd h4).2.2 (r.getD j Dat.d0) (by rw [List.getD_eq_getElem?_getD, List.getElem?_eq_getElem hj']; exact List.getElem_mem hj')
    simp only [List.getD_cons_zero, List.getD_cons_succ]
    omega
  | x :: r, last, i + 1, j + 1, ho, hij, hj => by
    obtain ⟨h1, h2, h3, h4⟩ := okSp_iff.1 ho
    have := okSp_get (i := i) (j := j) h4 (by omega) (by simpa using hj)
    simpa only [List.getD_cons_succ] using this
theorem part_one {m : Int} : ∀ {l : List Span}, part (m + 1) l - part m l = 1 → ∃ k, k < l.length ∧ (l.getD k Dat.d0).frm ≤ m ∧ m < (l.getD k Dat.d0).to
  | [], h => by simp [part] at h
  | x :: r, h => by
    by_cases hx : x.frm ≤ m ∧ m < x.to
    · exact ⟨0, by simp, by simpa using hx.1, by simpa using hx.2⟩
    · have e : mx0 (mn x.to (m + 1) - x.frm) = mx0 (mn x.to m - x.frm) := by
        unfold mx0 mn
        repeat' split
        all_goals omega
      rw [part, part, e] at h
      obtain ⟨k, h1, h2, h3⟩ := part_one (m := m) (l := r) (by omega)
      exact ⟨k + 1, by simpa using h1, by simpa using h2, by simpa using h3⟩
theorem place_spec {s : Set} (h : Right s) {m : Int} {k : Nat} (hk : k < s.spans.length) (h1 : (s.spans.getD k Dat.d0).frm ≤ m) (h2 : m < (s.spans.getD k Dat.d0).to) : placeV s.spans m = k := by
  have e : placeV s.spans m = bsN (fun i => decide ((s.spans.length : Int) ≤ i ∨ 0 ≤ i ∧ m < (s.spans.getD i.toNat Dat.d0).to)) 0 s.spans.length := by
    refine bsN_congr _ 0 _ (Nat.le_refl _) fun i a b => ?_
    refine decide_eq_decide.2 ⟨fun c => .inr ⟨a, c⟩, fun c => ?_⟩
    rcases c with c | c
    · omega
    · exact c.2
  obtain ⟨i1, i2, i3, i4⟩ := bsN_spec (p := fun i => decide ((s.spans.length : Int) ≤ i ∨ 0 ≤ i ∧ m < (s.spans.getD i.toNat Dat.d0).to)) (fun a b hab ha => by
    simp only [decide_eq_true_eq] at ha ⊢
    rcases Int.lt_or_le b s.spans.length with hb | hb
    · right
      rcases ha with ha | ⟨ha, ha2⟩
      · omega
      · refine ⟨by omega, ?_⟩
        by_cases hq : a = b
        · rw [← hq]; exact ha2
        · have := okSp_get (i := a.toNat) (j := b.toNat) h.ok (by omega) (by omega)
          have := right_get h (k := b.toNat) (by omega)
          omega
    · exact .inl hb) _ 0 s.spans.length (Nat.le_refl _) (by omega)
  rw [e]
  generalize bsN (fun i => decide ((s.spans.length : Int) ≤ i ∨ 0 ≤ i ∧ m < (s.spans.getD i.toNat Dat.d0).to)) 0 s.spans.length = q at *
  rcases Int.lt_or_le (k : Int) q with hq | hq
  · have := i3 k (by omega) hq
    simp only [decide_eq_false_iff_not, not_or, not_and, Int.toNat_natCast] at this
    exact absurd h2 (this.2 (by omega))
  · have := i4 (by omega)
    simp only [decide_eq_true_eq] at this
    rcases this with h3 | ⟨h3, h4⟩
    · omega
    · by_cases hqk : q = k
      · exact hqk
      · have := okSp_get (i := q.toNat) (j := k) h.ok (by omega) hk
        omega
theorem has_one {s : Set} (h : Right s) {t : Int} (h0 : 0 ≤ t) (h1 : t ≤ 1099511627776) (hu : uptoV s (t + 1) - uptoV s t = 1) : hasV s t = (true, 0) := by
  obtain ⟨e1, e2, e3, e4, e5⟩ := divmod h h0
  have hq : 0 ≤ t / s.size := Int.ediv_nonneg h0 (by have := h.s1; omega)
  have a := upto_at h hq e3 (by omega)
  have b := upto_at h hq (show 0 ≤ t % s.size + 1 by omega) (by omega)
  rw [← e5] at a
  rw [← Int.add_assoc, ← e5] at b
  obtain ⟨k, k1, k2, k3⟩ := part_one (l := s.spans) (m := t % s.size) (by omega)
  have hp := place_spec h k1 k2 k3
  unfold hasV
  rw [if_pos (check_iff.2 h), if_neg (by omega), e2, hp, Int.toNat_natCast, decide_eq_true (by omega), decide_eq_true k2]
  rfl
theorem fromH_win {s : Set} (h : Right s) {a n : Int} (ha : 0 ≤ a) (ha2 : a ≤ 1000000) (hn : 0 ≤ n) : fromH s a n = win s n a := by
  rw [(fromH_bd h ha ha2 hn).1, win_split h hn ha]; rfl
theorem win_mono {s : Set} (h : Right s) {a n m : Int} (ha : 0 ≤ a) (hn : 0 ≤ n) (hm : n ≤ m) : win s n a ≤ win s m a := by
  have := upto_le h (show 0 ≤ a + n by omega) (show a + n ≤ a + m by omega)
  unfold win; omega
theorem from_spec {s : Set} (h : Right s) (hne : s.spans.length ≠ 0) {a need : Int} (ha : 0 ≤ a) (ha2 : a ≤ 1000000) (h0 : 0 < need) (h1 : need ≤ 1000000) :
    ∃ W, fromV s a need = (W, 0) ∧ 0 < W ∧ W ≤ 1000002000000 ∧ need ≤ win s W a ∧ ∀ m, 0 ≤ m → m < W → win s m a < need := by
  have hN := nbd h (show 0 ≤ need by omega) h1
  have hs1 := h.s1
  have hlp := long_pos h hne
  have e : fromV s a need = (bsN (fun n => decide (need ≤ fromH s a n)) 0 (s.size * (need + 2)), 0) := by
    unfold fromV fewV
    rw [if_pos (check_iff.2 h), if_neg (by omega), if_neg (by omega), if_neg hne]
  generalize hNN : s.size * (need + 2) = N at *
  rw [bsN_congr (q := fun n => decide (0 ≤ n ∧ need ≤ win s n a)) _ 0 N (Nat.le_refl _) fun m hm _ => by
    rw [fromH_win h ha ha2 hm]; exact decide_eq_decide.2 ⟨fun c => ⟨hm, c⟩, fun c => c.2⟩] at e
  obtain ⟨i1, i2, i3, i4⟩ := bsN_spec (p := fun n => decide (0 ≤ n ∧ need ≤ win s n a)) (fun x y hxy hx => by
    simp only [decide_eq_true_eq] at hx ⊢
    exact ⟨by omega, by have := win_mono h ha hx.1 hxy; omega⟩) (N - 0).toNat 0 N (Nat.le_refl _) (by omega)
  generalize bsN (fun n => decide (0 ≤ n ∧ need ≤ win s n a)) 0 N = W at *
  have hlast : need ≤ win s N a := by
    rw [win_split h (by omega) ha, ← hNN, show s.size * (need + 2) = (need + 2) * s.size from Int.mul_comm _ _, Int.mul_ediv_cancel _ (by omega)]
    have hb := (win_bd h (Int.emod_nonneg ((need + 2) * s.size) (show s.size ≠ 0 by omega)) ha).1
    have : (need + 2) * 1 ≤ (need + 2) * long s.spans := Int.mul_le_mul_of_nonneg_left hlp (by omega)
    omega
  have hW : need ≤ win s W a := by
    by_cases hlt : W < N
    · have := i4 hlt
      simp only [decide_eq_true_eq] at this
      exact this.2
    · rw [show W = N by omega]; exact hlast
  refine ⟨W, e, ?_, by omega, hW, fun m hm hmW => ?_⟩
  · by_cases hz : W = 0
    · have : win s 0 a = 0 := by unfold win; rw [Int.add_zero]; omega
      rw [hz, this] at hW; omega
    · omega
  · have := i3 m hm hmW
    simp only [decide_eq_false_iff_not, not_and] at this
    have := this hm
    omega
theorem fromV_ok {s : Set} {a need : Int} (h : (fromV s a need).2 = 0) : Right s ∧ 0 ≤ a ∧ a ≤ 1000000 ∧ 0 ≤ need ∧ need ≤ 1000000 ∧ (need = 0 ∧ (fromV s a need).1 = 0 ∨ need ≠ 0 ∧ s.spans.length ≠ 0) := by
  unfold fromV at *
  split at h
  · rename_i hc
    split at h
    · cases h
    · refine ⟨check_iff.1 hc, by omega, by omega, by omega, by omega, ?_⟩
      rw [if_pos hc, if_neg (by assumption)]
      unfold fewV at *
      split at h
      · rename_i h0; rw [if_pos h0]; exact .inl ⟨h0, rfl⟩
      · split at h
        · cases h
        · right; exact ⟨by assumption, by assumption⟩
  · rename_i hc; exact absurd h hc
theorem fromV_err {s : Set} {a need : Int} (h : ¬ (fromV s a need).2 = 0) : (fromV s a need).1 = 0 := by
  unfold fromV at *
  split
  · rename_i hc
    rw [if_pos hc] at h
    split
    · rfl
    · rename_i h1
      rw [if_neg h1] at h
      unfold fewV at *
      split
      · rfl
      · rename_i h2
        rw [if_neg h2] at h
        split
        · rfl
        · rename_i h3; rw [if_neg h3] at h; exact absurd rfl h
  · rfl
/-- What the law says. -/
theorem from_law {s : Set} {a need : Int} (h : (fromV s a need).2 = 0) (hw : (waitV s need).2 = 0) :
    0 ≤ (fromV s a need).1 ∧ (fromV s a need).1 ≤ (waitV s need).1 ∧ (waitV s need).1 ≤ 1000002000000 ∧ countV s a (a + (fromV s a need).1) = (need, 0) ∧ (0 < (fromV s a need).1 → hasV s (a + (fromV s a need).1 - 1) = (true, 0)) ∧
    (need = 0 ∨ ∃ i, i < s.spans.length ∧ fromV s (s.spans.getD i Dat.d0).to need = ((waitV s need).1, 0)) := by
  obtain ⟨hR, ha, ha2, h0, h1, h2⟩ := fromV_ok h
  have hs2 := hR.s2
  rcases h2 with ⟨h2, h3⟩ | ⟨h2, h3⟩
  · have hw0 : (waitV s need).1 = 0 := by
      unfold waitV fewV; rw [if_pos (check_iff.2 hR), if_neg (by omega), if_pos h2]
    rw [h3, hw0]
    refine ⟨by omega, by omega, by omega, ?_, fun h => by omega, .inl h2⟩
    rw [count_of hR ha (by omega) (by omega), Int.add_zero, h2, Int.sub_self]
  · obtain ⟨F, f1, f2, f3, f4, f5⟩ := from_spec hR h3 ha ha2 (show 0 < need by omega) h1
    obtain ⟨W, w1, w2, w3, w4, w5⟩ := wait_spec hR h3 (show 0 < need by omega) h1
    rw [f1, w1]
    dsimp only
    have lW := (leastV_spec hR (show 0 ≤ W by omega)).1
    have g1 := f5 (F - 1) (by omega) (by omega)
    have st := upto_step hR (t := a + F - 1) (by omega)
    rw [show a + F - 1 + 1 = a + F by omega] at st
    unfold win at g1 f4
    rw [show a + (F - 1) = a + F - 1 by omega] at g1
    have hFW : F ≤ W := by
      rcases Int.lt_or_le W F with q | q
      · have := f5 W (by omega) q
        have := lW a ha
        omega
      · exact q
    refine ⟨by omega, hFW, w3, ?_, fun _ => ?_, .inr ?_⟩
    · rw [count_of hR ha (by omega) (by omega)]
      congr 1; omega
    · exact has_one hR (by omega) (by omega) (by rw [show a + F - 1 + 1 = a + F by omega]; omega)
    · obtain ⟨-, t, t0, t1⟩ := leastV_spec hR (show 0 ≤ W - 1 by omega)
      have q := w5 (W - 1) (by omega) (by omega)
      obtain ⟨x, hx, hx2⟩ := win_end hR (by intro hc; rw [hc] at h3; exact h3 rfl) (show 0 ≤ W - 1 by omega) t0
      obtain ⟨i, hi, hix⟩ := List.getElem_of_mem hx
      have bx := (okSp_bd hR.ok).2.2 x hx
      obtain ⟨V, v1, v2, v3, v4, v5⟩ := from_spec hR h3 (show 0 ≤ x.to by omega) (show x.to ≤ 1000000 by omega) (show 0 < need by omega) h1
      refine ⟨i, hi, ?_⟩
      have : s.spans.getD i Dat.d0 = x := by rw [List.getD_eq_getElem?_getD, List.getElem?_eq_getElem hi, hix]; rfl
      rw [this, v1]
      have hVW : V = W := by
        rcases Int.lt_or_le W V with c | c
        · have := v5 W (by omega) c
          have := lW x.to (by omega)
          omega
        · rcases Int.lt_or_le V W with d | d
          · have := win_mono hR (show 0 ≤ x.to by omega) (show 0 ≤ V by omega) (show V ≤ W - 1 by omega)
            omega
          · omega
      rw [hVW]
noncomputable def conFr : FuncId → Con := fun f => match f with
  | 21 => pureCon (detPC fromC_D)
  | 19 => pureCon (detPC wait_D)
  | 18 => pureCon (detPC count_D)
  | 22 => pureCon (detPC hasC_D)
  | 17 => pureCon (detPC lives_D)
  | _ => fun _ _ _ => Bad 1001
theorem conFr_ok : ConOk Try.prog conFr := fun f A H K h => by
  unfold conFr at h
  split at h
  · exact ⟨⟨Try.f21, Try.func21, by kernel_rfl, by kernel_rfl⟩, pureCon_ok fromC_ok h⟩
  · exact ⟨⟨Try.f19, Try.func19, by kernel_rfl, by kernel_rfl⟩, pureCon_ok wait_ok h⟩
  · exact ⟨⟨Try.f18, Try.func18, by kernel_rfl, by kernel_rfl⟩, pureCon_ok count_ok h⟩
  · exact ⟨⟨Try.f22, Try.func22, by kernel_rfl, by kernel_rfl⟩, pureCon_ok hasC_ok h⟩
  · exact ⟨⟨Try.f17, Try.func17, by kernel_rfl, by kernel_rfl⟩, pureCon_ok lives_ok h⟩
  · cases h
structure FrX (s : Set) (need : Int) where
  k : Nat
  b : Bool
  hk : k ≤ s.spans.length
  hr : b = true ∨ ∃ i, k ≤ i ∧ i < s.spans.length ∧ fromV s (s.spans.getD i Dat.d0).to need = ((waitV s need).1, 0)
set_option maxRecDepth 100000 in
set_option maxHeartbeats 4000000 in
theorem from_vc (s : Set) (a : Int) (need : Int) (fit_s : Siz.fit s) (fit_a : Siz.fit a) (fit_need : Siz.fit need) (hB : Siz.bulk s + Siz.bulk a + Siz.bulk need ≤ 1048576) : FnOk Try.prog 8 [.agg (Dat.enc fun _ => s), .i .i64 fun _ => a, .i .i64 fun _ => need] [] (outA (.bc true) []) := by
  refine fn_ok envOk zl conFr_ok noDraws_ok (keep := [0, 1, 2, 3, 6, 7, 8, 9, 10, 11, 12, 13, 14, 15, 17, 18, 19, 42, 76, 82, 97, 101, 102, 103, 104]) Try.func8 rfl ?_
  have fin := @fin_b
  have finc := @fin_t
  have hp' : s.spans.length ≤ 9223372036854775807 := by
    have h1 := bulk_len Span.one_le s.spans
    simp only [Siz.bulk] at hB h1
    omega
  generalize outA (.bc true) [] = K at fin finc
  cbv
  repeat' first | (show Stp _; exfalso; first | omega | (exact h ‹_›) | (exact absurd ‹_› h)) | (refine Stp.mk ?_; cbv) | (refine Gen.mk fun r hr => ?_; (try simp only [Dat.ok, Dat.dec, Leaf.ok, Leaf.val, Span.eta, Set.eta, val_sl, val_nil] at hr); cbv) | exact trivial | rfl | refine Both.mk ?_ ?_ | (refine Imp.mk fun h => ?_; (try dsimp only at h); (try simp only [nc, Int.toNat_natCast, Bool.not_eq_true', Bool.not_eq_false', decide_eq_true_eq, decide_eq_false_iff_not, beq_iff_eq, beq_eq_false_iff_ne, bne_iff_ne, ne_eq, Bool.and_eq_true, Bool.or_eq_true, Bool.and_eq_false_iff, Bool.or_eq_false_iff, Int.not_le, Int.not_lt, Nat.not_le, Nat.not_lt] at h); (try simp only [nc] at h)) | refine Ob.mk ?_ ?_ | refine Eq'.mk ?_ | (refine AllN.mk fun i hi => ?_; cbv)
  all_goals ((try dsimp only at *); (try simp only [nc, Int.toNat_natCast, Bool.not_eq_true', Bool.not_eq_false', decide_eq_true_eq, decide_eq_false_iff_not, beq_iff_eq, beq_eq_false_iff_ne, bne_iff_ne, ne_eq, Bool.and_eq_true, Bool.or_eq_true, Bool.and_eq_false_iff, Bool.or_eq_false_iff, Int.not_le, Int.not_lt, Nat.not_le, Nat.not_lt] at *); (try simp only [nc] at *))
  all_goals try simp only [Dat.ok, Dat.dec, Leaf.ok, Leaf.val, Span.eta, Set.eta, val_sl] at *
  all_goals first
    | exact finc
    | exact ⟨⟨trivial, rfl, fun i _ => Dat.hok _⟩, hp'⟩
    | exact fin (beq_iff_eq.2 (fromV_err (by assumption)))
    | skip
  all_goals obtain ⟨L1, L2, L3, L4, L5, L6⟩ := from_law (show (fromV s a need).2 = 0 by assumption) (show (waitV s need).2 = 0 by assumption)
  all_goals obtain ⟨hR, ha, ha2, hn0, hn1, -⟩ := fromV_ok (show (fromV s a need).2 = 0 by assumption)
  all_goals try simp only [L4, not_true_eq_false] at *
  all_goals first
    | contradiction
    | (exfalso; omega)
    | (unfold InR; omega)
    | (exfalso
       simp only [L5 (show 0 < (fromV s a need).1 by assumption), not_true_eq_false, reduceCtorEq] at *
       done)
    | skip
  all_goals (
    refine LoopVC.frame [15, 17, 18, 19, 103, 104] (FrX s need) (fun x => [(15, .b fun _ => x.b), (103, .i .i64 fun _ => x.k)]) (fun _ => []) [] (fun x => s.spans.length - x.k) ⟨0, need == 0, Nat.zero_le _, ?_⟩ rfl (fun _ => rfl) ?_ ?_ fun ⟨k, b, hk, hr⟩ => ?_
    · rcases L6 with L6 | ⟨i, i1, i2⟩
      · exact .inl (beq_iff_eq.2 L6)
      · exact .inr ⟨i, Nat.zero_le _, i1, i2⟩
    · cbv
      repeat' first | (refine Stp.mk ?_; cbv) | (refine Gen.mk fun r hr => ?_; (try simp only [Dat.ok, Dat.dec, Leaf.ok, Leaf.val, Span.eta, Set.eta, val_sl, val_nil] at hr); cbv) | exact trivial | rfl | refine Both.mk ?_ ?_ | (refine Imp.mk fun h => ?_; (try dsimp only at h); (try simp only [nc, Int.toNat_natCast, Bool.not_eq_true', Bool.not_eq_false', decide_eq_true_eq, decide_eq_false_iff_not, beq_iff_eq, beq_eq_false_iff_ne, bne_iff_ne, ne_eq, Bool.and_eq_true, Bool.or_eq_true, Bool.and_eq_false_iff, Bool.or_eq_false_iff, Int.not_le, Int.not_lt, Nat.not_le, Nat.not_lt] at h); (try simp only [nc] at h)) | refine Ob.mk ?_ ?_ | refine Eq'.mk ?_ | (refine AllN.mk fun i hi => ?_; cbv)
    · cbv
      repeat' first | (refine Stp.mk ?_; cbv) | (refine Gen.mk fun r hr => ?_; (try simp only [Dat.ok, Dat.dec, Leaf.ok, Leaf.val, Span.eta, Set.eta, val_sl, val_nil] at hr); cbv) | exact trivial | rfl | refine Both.mk ?_ ?_ | (refine Imp.mk fun h => ?_; (try dsimp only at h); (try simp only [nc, Int.toNat_natCast, Bool.not_eq_true', Bool.not_eq_false', decide_eq_true_eq, decide_eq_false_iff_not, beq_iff_eq, beq_eq_false_iff_ne, bne_iff_ne, ne_eq, Bool.and_eq_true, Bool.or_eq_true, Bool.and_eq_false_iff, Bool.or_eq_false_iff, Int.not_le, Int.not_lt, Nat.not_le, Nat.not_lt] at h); (try simp only [nc] at h)) | refine Ob.mk ?_ ?_ | refine Eq'.mk ?_ | (refine AllN.mk fun i hi => ?_; cbv)
    · cbv
      repeat' first | (show Stp _; exfalso; first | omega | (exact h ‹_›) | (exact absurd ‹_› h)) | (refine Stp.mk ?_; cbv) | (refine Gen.mk fun r hr => ?_; (try simp only [Dat.ok, Dat.dec, Leaf.ok, Leaf.val, Span.eta, Set.eta, val_sl, val_nil] at hr); cbv) | exact trivial | rfl | refine Both.mk ?_ ?_ | (refine Imp.mk fun h => ?_; (try dsimp only at h); (try simp only [nc, Int.toNat_natCast, Bool.not_eq_true', Bool.not_eq_false', decide_eq_true_eq, decide_eq_false_iff_not, beq_iff_eq, beq_eq_false_iff_ne, bne_iff_ne, ne_eq, Bool.and_eq_true, Bool.or_eq_true, Bool.and_eq_false_iff, Bool.or_eq_false_iff, Int.not_le, Int.not_lt, Nat.not_le, Nat.not_lt] at h); (try simp only [nc] at h)) | refine Ob.mk ?_ ?_ | refine Eq'.mk ?_ | (refine AllN.mk fun i hi => ?_; cbv)
      all_goals ((try dsimp only at *); (try simp only [nc, Int.toNat_natCast, Bool.not_eq_true', Bool.not_eq_false', decide_eq_true_eq, decide_eq_false_iff_not, beq_iff_eq, beq_eq_false_iff_ne, bne_iff_ne, ne_eq, Bool.and_eq_true, Bool.or_eq_true, Bool.and_eq_false_iff, Bool.or_eq_false_iff, Int.not_le, Int.not_lt, Nat.not_le, Nat.not_lt] at *); (try simp only [nc] at *))
      all_goals try simp only [Dat.ok, Dat.dec, Leaf.ok, Leaf.val, Span.eta, Set.eta, val_sl] at *
      all_goals first
        | omega
        | (unfold InR; omega)
        | exact ⟨⟨trivial, rfl, fun i _ => Dat.hok _⟩, hp'⟩
        | (refine fin ?_
           rcases hr with hr | ⟨i, i1, i2, i3⟩
           · exact hr
           · omega)
        | (guard_hyp h : b = true
           refine ⟨⟨k + 1, true, by omega, .inl rfl⟩, ?_, ?_, rfl, by (try dsimp only); omega⟩
           · cbv
             repeat' first | (refine Stp.mk ?_; cbv) | (refine Gen.mk fun r hr => ?_; (try simp only [Dat.ok, Dat.dec, Leaf.ok, Leaf.val, Span.eta, Set.eta, val_sl, val_nil] at hr); cbv) | exact trivial | rfl | refine Both.mk ?_ ?_ | (refine Imp.mk fun h => ?_; (try dsimp only at h); (try simp only [nc, Int.toNat_natCast, Bool.not_eq_true', Bool.not_eq_false', decide_eq_true_eq, decide_eq_false_iff_not, beq_iff_eq, beq_eq_false_iff_ne, bne_iff_ne, ne_eq, Bool.and_eq_true, Bool.or_eq_true, Bool.and_eq_false_iff, Bool.or_eq_false_iff, Int.not_le, Int.not_lt, Nat.not_le, Nat.not_lt] at h); (try simp only [nc] at h)) | refine Ob.mk ?_ ?_ | refine Eq'.mk ?_ | (refine AllN.mk fun i hi => ?_; cbv)
             all_goals first | rfl | assumption
           · cbv
             repeat' first | (refine Stp.mk ?_; cbv) | (refine Gen.mk fun r hr => ?_; (try simp only [Dat.ok, Dat.dec, Leaf.ok, Leaf.val, Span.eta, Set.eta, val_sl, val_nil] at hr); cbv) | exact trivial | rfl | refine Both.mk ?_ ?_ | (refine Imp.mk fun h => ?_; (try dsimp only at h); (try simp only [nc, Int.toNat_natCast, Bool.not_eq_true', Bool.not_eq_false', decide_eq_true_eq, decide_eq_false_iff_not, beq_iff_eq, beq_eq_false_iff_ne, bne_iff_ne, ne_eq, Bool.and_eq_true, Bool.or_eq_true, Bool.and_eq_false_iff, Bool.or_eq_false_iff, Int.not_le, Int.not_lt, Nat.not_le, Nat.not_lt] at h); (try simp only [nc] at h)) | refine Ob.mk ?_ ?_ | refine Eq'.mk ?_ | (refine AllN.mk fun i hi => ?_; cbv))
        | (guard_hyp h : (fromV s (s.spans.getD k Dat.d0).to need).2 = 0
           refine ⟨⟨k + 1, (fromV s (s.spans.getD k Dat.d0).to need).1 == (waitV s need).1, by omega, ?_⟩, ?_, ?_, rfl, by (try dsimp only); omega⟩
           · rcases hr with hr | ⟨i, i1, i2, i3⟩
             · simp_all
             · by_cases hik : i = k
               · subst hik; left; rw [i3]; exact beq_iff_eq.2 rfl
               · exact .inr ⟨i, by omega, i2, i3⟩
           · cbv
             repeat' first | (refine Stp.mk ?_; cbv) | (refine Gen.mk fun r hr => ?_; (try simp only [Dat.ok, Dat.dec, Leaf.ok, Leaf.val, Span.eta, Set.eta, val_sl, val_nil] at hr); cbv) | exact trivial | rfl | refine Both.mk ?_ ?_ | (refine Imp.mk fun h => ?_; (try dsimp only at h); (try simp only [nc, Int.toNat_natCast, Bool.not_eq_true', Bool.not_eq_false', decide_eq_true_eq, decide_eq_false_iff_not, beq_iff_eq, beq_eq_false_iff_ne, bne_iff_ne, ne_eq, Bool.and_eq_true, Bool.or_eq_true, Bool.and_eq_false_iff, Bool.or_eq_false_iff, Int.not_le, Int.not_lt, Nat.not_le, Nat.not_lt] at h); (try simp only [nc] at h)) | refine Ob.mk ?_ ?_ | refine Eq'.mk ?_ | (refine AllN.mk fun i hi => ?_; cbv)
             all_goals first | rfl | assumption
           · cbv
             repeat' first | (refine Stp.mk ?_; cbv) | (refine Gen.mk fun r hr => ?_; (try simp only [Dat.ok, Dat.dec, Leaf.ok, Leaf.val, Span.eta, Set.eta, val_sl, val_nil] at hr); cbv) | exact trivial | rfl | refine Both.mk ?_ ?_ | (refine Imp.mk fun h => ?_; (try dsimp only at h); (try simp only [nc, Int.toNat_natCast, Bool.not_eq_true', Bool.not_eq_false', decide_eq_true_eq, decide_eq_false_iff_not, beq_iff_eq, beq_eq_false_iff_ne, bne_iff_ne, ne_eq, Bool.and_eq_true, Bool.or_eq_true, Bool.and_eq_false_iff, Bool.or_eq_false_iff, Int.not_le, Int.not_lt, Nat.not_le, Nat.not_lt] at h); (try simp only [nc] at h)) | refine Ob.mk ?_ ?_ | refine Eq'.mk ?_ | (refine AllN.mk fun i hi => ?_; cbv))
        | (guard_hyp h : ¬ (fromV s (s.spans.getD k Dat.d0).to need).2 = 0
           refine ⟨⟨k + 1, false, by omega, ?_⟩, ?_, ?_, rfl, by (try dsimp only); omega⟩
           · rcases hr with hr | ⟨i, i1, i2, i3⟩
             · simp_all
             · by_cases hik : i = k
               · subst hik; rw [i3] at h; exact absurd rfl h
               · exact .inr ⟨i, by omega, i2, i3⟩
           · cbv
             repeat' first | (refine Stp.mk ?_; cbv) | (refine Gen.mk fun r hr => ?_; (try simp only [Dat.ok, Dat.dec, Leaf.ok, Leaf.val, Span.eta, Set.eta, val_sl, val_nil] at hr); cbv) | exact trivial | rfl | refine Both.mk ?_ ?_ | (refine Imp.mk fun h => ?_; (try dsimp only at h); (try simp only [nc, Int.toNat_natCast, Bool.not_eq_true', Bool.not_eq_false', decide_eq_true_eq, decide_eq_false_iff_not, beq_iff_eq, beq_eq_false_iff_ne, bne_iff_ne, ne_eq, Bool.and_eq_true, Bool.or_eq_true, Bool.and_eq_false_iff, Bool.or_eq_false_iff, Int.not_le, Int.not_lt, Nat.not_le, Nat.not_lt] at h); (try simp only [nc] at h)) | refine Ob.mk ?_ ?_ | refine Eq'.mk ?_ | (refine AllN.mk fun i hi => ?_; cbv)
             all_goals first | rfl | assumption
           · cbv
             repeat' first | (refine Stp.mk ?_; cbv) | (refine Gen.mk fun r hr => ?_; (try simp only [Dat.ok, Dat.dec, Leaf.ok, Leaf.val, Span.eta, Set.eta, val_sl, val_nil] at hr); cbv) | exact trivial | rfl | refine Both.mk ?_ ?_ | (refine Imp.mk fun h => ?_; (try dsimp only at h); (try simp only [nc, Int.toNat_natCast, Bool.not_eq_true', Bool.not_eq_false', decide_eq_true_eq, decide_eq_false_iff_not, beq_iff_eq, beq_eq_false_iff_ne, bne_iff_ne, ne_eq, Bool.and_eq_true, Bool.or_eq_true, Bool.and_eq_false_iff, Bool.or_eq_false_iff, Int.not_le, Int.not_lt, Nat.not_le, Nat.not_lt] at h); (try simp only [nc] at h)) | refine Ob.mk ?_ ?_ | refine Eq'.mk ?_ | (refine AllN.mk fun i hi => ?_; cbv))
        | fail)
section
open Go.ChangeShapes Go.WideShapes Go.ChangeAt Go.RowKit Go.Joins Go.Deep
set_option linter.unusedVariables false
theorem from_own : ownKnob Try.prog.godebug = none := by kernel_rfl
theorem from_laidOut : laidOutB Try.prog = true := by kernel_rfl
theorem from_readOk {ts : Array TypeId} (h : ts.toList.all (fun t => Try.prog.readableRec t && decide (t < Try.prog.types.size)) = true) : ∀ t ∈ ts.toList, Try.prog.readableRec t = true ∧ t < Try.prog.types.size := fun t ht => by
  have := List.all_eq_true.1 h t ht
  simpa using this
mutual
theorem from_bD {H : Type} : ∀ d : DataW H, Rows.uptoBulk d = bulkD d
  | .lit l => by cases l <;> simp [Rows.uptoBulk, bulkD]
  | .nil => by simp [Rows.uptoBulk, bulkD]
  | .ptr d => by simp [Rows.uptoBulk, bulkD, from_bD d]
  | .slice a b => by simp [Rows.uptoBulk, bulkD, from_bL a, from_bL b]
  | .agg a => by simp [Rows.uptoBulk, bulkD, from_bL a]
  | .iface _ d => by simp [Rows.uptoBulk, bulkD, from_bD d]
  | .map e => by simp [Rows.uptoBulk, bulkD, from_bE e]
  | .held _ => by simp [Rows.uptoBulk, bulkD]
theorem from_bL {H : Type} : ∀ d : List (DataW H), Rows.uptoBulkAll d = bulkL d
  | [] => by simp [Rows.uptoBulkAll, bulkL]
  | d :: r => by simp [Rows.uptoBulkAll, bulkL, from_bD d, from_bL r]
theorem from_bE {H : Type} : ∀ d : List (Lit × DataW H), Rows.uptoBulkEntries d = bulkE d
  | [] => by simp [Rows.uptoBulkEntries, bulkE]
  | d :: r => by simp [Rows.uptoBulkEntries, bulkE, from_bX d, from_bE r]
theorem from_bX {H : Type} : ∀ d : Lit × DataW H, Rows.uptoBulkEntry d = bulkX d
  | (l, d) => by cases l <;> simp [Rows.uptoBulkEntry, bulkX, from_bD d]
end
set_option maxRecDepth 100000 in
theorem from_lifted (os : Os) (started : os.Started) (H : Type) (enc : TypeId × Value → H) (F : Stop.Interp) :
    ReturnsInHanded {} Try.checked os 8 .any ((Rows.OpenSpec.upto Rows.supplyFromSpec).pre6 enc Try.prog Try.f8 Rows.supplyFromUptoRow.domain false) (((Rows.OpenSpec.upto Rows.supplyFromSpec).at F).post enc Try.prog Try.f8 false true false false) := by
  refine returnsInHanded_of_cond (C := Try.checked) (s := Rows.OpenSpec.upto Rows.supplyFromSpec) (k := Rows.uptoSmall) rfl from_own started (by kernel_rfl) Try.func8
    (OpenSpec.witness (enc := enc) (C := Try.checked) (s := Rows.OpenSpec.upto Rows.supplyFromSpec) (k := Rows.uptoSmall) rfl false ⟨#[], #[.agg #[.int .i64 0, .slice none 0 0], .int .i64 0, .int .i64 0], []⟩ 8 (by kernel_rfl) (by kernel_rfl) (by kernel_rfl)
      (x := ([.agg [.lit (.int .i64 0), .nil], .lit (.int .i64 0), .lit (.int .i64 0)], [], [])) (by kernel_rfl) rfl (by kernel_rfl)) ?_
  intro W base args ds gs before hval0 hW _ hk _
  show Calls Try.prog 8 args W fun e W' => ∃ v, e = .returned v ∧ Rows.supplyFromSpec.post enc Try.prog Try.f8 false true false false W args v W'
  have hval : ∀ (j : Nat) t v, Try.f8.params[j]? = some t → args[j]? = some v → Value.okWide Try.prog W .any base t v := hval0
  have hW' := hW
  have hlt := hW.lt
  obtain ⟨p, q, hA0, hV, rfl, hfz, hnd⟩ := hW
  have hA : DataW.TrodAll enc Try.prog W 0 (fun _ => true) true Try.f8.params.toList args.toList ds p := hA0
  have hA1 := hA
  rw [Try.params8] at hA hval
  obtain ⟨v0, vs0, d0, ds0, p0, q0, hargs, rfl, rfl, h0, r0⟩ := trodAll_cons hA
  obtain ⟨v1, vs1, d1, ds1, p1, q1, rfl, rfl, rfl, h1, r1⟩ := trodAll_cons r0
  obtain ⟨v2, vs2, d2, ds2, p2, q2, rfl, rfl, rfl, h2, r2⟩ := trodAll_cons r1
  obtain ⟨rfl, rfl, rfl⟩ := trodAll_nil r2
  obtain rfl : args = #[v0, v1, v2] := by cases args; simp_all
  obtain ⟨rfl, rfl⟩ := trodVars_none hV
  obtain ⟨cs0, rfl, _⟩ := okWide_struct Try.underlying24 (hval 0 24 v0 rfl rfl)
  obtain ⟨y0, u0, b0, e0⟩ := arg_agg (α := Set) opn_Set h0
  obtain ⟨z1, rfl⟩ := okWide_int Try.underlying3 (hval 1 3 v1 rfl rfl)
  obtain ⟨y1, u1, b1, e1⟩ := arg_leaf (α := Int) (opn_int Try.underlying3) rfl h1
  obtain ⟨z2, rfl⟩ := okWide_int Try.underlying3 (hval 2 3 v2 rfl rfl)
  obtain ⟨y2, u2, b2, e2⟩ := arg_leaf (α := Int) (opn_int Try.underlying3) rfl h2
  have hB : Siz.bulk y0 + Siz.bulk y1 + Siz.bulk y2 ≤ 1048576 := by
    have h := of_decide_eq_true hk
    rw [from_bL] at h
    simp only [List.append_nil, bulkL] at h
    omega
  have hR := repL_cons (M := fun _ => False) (β := fun _ => none) (cp := fun _ => 0) (.c e0) (repL_cons (M := fun _ => False) (β := fun _ => none) (cp := fun _ => 0) (.c e1) (repL_cons (M := fun _ => False) (β := fun _ => none) (cp := fun _ => 0) (.c e2) (repL_nil)))
  refine (law_callsA (from_vc y0 y1 y2 u0 u1 u2 hB) hR).mono fun e W' ⟨he, bel⟩ => ?_
  subst he
  exact ⟨_, rfl, _, _, _, [], _, [], hW', trodAll_mk1 (shut_bool Try.underlying4 _), trodAll_below from_laidOut bel (from_readOk (by kernel_rfl)) (fun x hx => hlt x (List.mem_append_left _ hx)) hA1, rfl, bel.frame _, fun h => by cases h⟩
theorem SupplyFrom_proved : Rows.SupplyFromUptoSaid :=
  OpenClaim.holds_of_cond 8 Try.f8 rfl rfl rfl rfl rfl rfl rfl ⟨rfl, rfl, rfl, rfl, rfl⟩ rfl rfl rfl rfl rfl (by kernel_rfl) Try.func8 (by kernel_rfl)
    (of_decide_eq_true (by kernel_rfl)) (by unfold Func.isWrapper; first | (rw [if_pos (by decide +kernel)]; kernel_rfl) | (rw [if_neg (by decide +kernel)]; exact ⟨rfl, rfl⟩))
    (fun os started H enc _ F => from_lifted os started H enc F)
end

end Go.Proofs.Ytmicojghbhhblaa
