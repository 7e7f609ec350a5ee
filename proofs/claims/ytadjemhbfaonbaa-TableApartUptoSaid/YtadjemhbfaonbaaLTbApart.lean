/- No time is two owners'; all owners' times, and what is nobody's, are all there are; for all inputs. -/
import Derived.Test.YtadjemhbfaonbaaTabL
import Derived.Test.YtadjemhbfaonbaaTurn
import Derived.Test.YtadjemhbfaonbaaTimes
import Derived.Test.YtadjemhbfaonbaaBothQ
set_option linter.all false
namespace Go.Proofs.Ytadjemhbfaonbaa
open Go Go.Abs

noncomputable def cTbA : FuncId → Con := fun f => match f with
  | 8 => pureCon (detPC tablives_D)
  | 17 => pureCon (detPC wchk_D)
  | 10 => pureCon (detPC wowner_D)
  | 15 => pureCon times_C
  | 16 => pureCon (detPC count_D)
  | 18 => pureCon bothPC_C
  | 19 => pureCon (detPC hasC_D)
  | _ => fun _ _ _ => Bad 1001
theorem cTbA_ok : ConOk Try.prog cTbA := fun f A H K h => by
  unfold cTbA at h
  split at h
  · exact ⟨⟨Try.f8, Try.func8, by kernel_rfl, by kernel_rfl⟩, pureCon_ok tablives_ok h⟩
  · exact ⟨⟨Try.f17, Try.func17, by kernel_rfl, by kernel_rfl⟩, pureCon_ok wchk_ok h⟩
  · exact ⟨⟨Try.f10, Try.func10, by kernel_rfl, by kernel_rfl⟩, pureCon_ok wowner_ok h⟩
  · exact ⟨⟨Try.f15, Try.func15, by kernel_rfl, by kernel_rfl⟩, pureCon_ok times_ok h⟩
  · exact ⟨⟨Try.f16, Try.func16, by kernel_rfl, by kernel_rfl⟩, pureCon_ok count_ok h⟩
  · exact ⟨⟨Try.f18, Try.func18, by kernel_rfl, by kernel_rfl⟩, pureCon_ok bothPC_ok h⟩
  · exact ⟨⟨Try.f19, Try.func19, by kernel_rfl, by kernel_rfl⟩, pureCon_ok hasC_ok h⟩
  · cases h
def dTbA : FuncId → Option Dt := fun f => match f with
  | _ => none
theorem dTbA_ok : DetOk Try.prog dTbA := fun f d h => by
  unfold dTbA at h
  split at h
  · cases h
theorem own_at {t : Table} (h : RightT t) {y : Int} (h0 : 0 ≤ y) (h1 : y ≤ 1099511627776) : ownerV t y = (ownT t y, 0) := by
  rw [ownerV, if_pos (wchk_iff.2 h), if_neg (by omega)]; rfl
theorem own_is {t : Table} {y : Int} (h : (ownerV t y).2 = 0) : RightT t ∧ 0 ≤ y ∧ y ≤ 1099511627776 := by
  unfold ownerV at h
  by_cases h1 : wchkV t = 0
  · rw [if_pos h1] at h
    by_cases h2 : y < 0 ∨ 1099511627776 < y
    · rw [if_pos h2] at h; exact absurd h (by decide)
    · exact ⟨wchk_iff.1 h1, by omega, by omega⟩
  · rw [if_neg h1] at h; exact absurd h h1
theorem times_len (t : Table) (n : Int) : (timesV t n).1.spans.length ≤ 200 := by
  by_cases h1 : wchkV t = 0
  · by_cases h2 : ownB n = true
    · exact (times_rt (wchk_iff.1 h1) h2).rt.len
    · rw [timesV, if_pos h1, if_neg h2]; exact Nat.zero_le _
  · rw [timesV, if_neg h1]; exact Nat.zero_le _
theorem times_both {t : Table} {a b : Int} (ha : (timesV t a).2 = 0) (hb : (timesV t b).2 = 0) (hab : a ≠ b) : (bothP (timesV t a).1 (timesV t b).1).2 = 0 ∧ (bothP (timesV t a).1 (timesV t b).1).1.spans = [] := by
  obtain ⟨hR, h1⟩ := times_is ha
  obtain ⟨-, h2⟩ := times_is hb
  have q1 := times_rt hR h1
  have q2 := times_rt hR h2
  have hin := both_in _ _ _ _ _ (Nat.le_refl _) q1.rt.ok (by rw [show (timesV t a).1.size = (timesV t b).1.size by rw [q1.sz, q2.sz]]; exact q2.rt.ok)
  have e : bothR (timesV t a).1.spans (timesV t b).1.spans = [] := norm_unique (m := []) (hin.1 (-1) (.inl (Int.le_refl _))) rfl (fun y => by
    rw [hin.2, q1.inn, q2.inn]
    by_cases h3 : (atW t.frame y t.windows).1 = a
    · rw [decide_eq_false (show ¬ (atW t.frame y t.windows).1 = b by omega), Bool.and_false]; rfl
    · rw [decide_eq_false h3, Bool.false_and]; rfl) (q' := -1)
  have e2 : twoV (timesV t a).1 (timesV t b).1 = 0 := by rw [twoV, if_pos (check_iff.2 q1.rt), if_pos (check_iff.2 q2.rt), if_pos (by rw [q1.sz, q2.sz])]
  have e3 : bothP (timesV t a).1 (timesV t b).1 = (⟨(timesV t a).1.size, []⟩, 0) := by
    rw [bothP, if_pos e2, bothV, e, fewV, if_neg (by simp)]
  rw [e3]
  exact ⟨rfl, rfl⟩
theorem times_has {t : Table} {a y : Int} (ha : (timesV t a).2 = 0) (hy : (ownerV t y).2 = 0) : hasV (timesV t a).1 y = (decide ((ownerV t y).1 = a), 0) := by
  obtain ⟨hR, h1⟩ := times_is ha
  obtain ⟨-, y0, y1⟩ := own_is hy
  have q := times_rt hR h1
  rw [has_iff q.rt y0 y1, times_step hR h1 y0, own_at hR y0 y1]
  congr 1
  by_cases h : ownT t y = a
  · rw [if_pos h, decide_eq_true h]; exact decide_eq_true (by omega)
  · rw [if_neg h, decide_eq_false h]; exact decide_eq_false (by omega)
theorem apart_f {t : Table} (hR : RightT t) (x : Int) : lenL 0 t.windows = 0 ∧ lenL 16 t.windows = lenA t.windows ∧ ((ownerV t x).2 = 0 → -1 ≤ (ownerV t x).1 ∧ (ownerV t x).1 < 16) := by
  have hown : ∀ w ∈ t.windows, 0 ≤ w.owner ∧ w.owner < 16 := fun w hw => by
    have := winB_iff.1 (okW_all (Int.le_refl 0) hR.ok w hw)
    exact ⟨this.1, this.2.1⟩
  refine ⟨lenL_zero fun w hw => (hown w hw).1, lenL_all fun w hw => (hown w hw).2, fun q => ?_⟩
  obtain ⟨-, y0, y1⟩ := own_is q
  rw [own_at hR y0 y1]
  exact ownT_bd hR x
theorem apart_k {t : Table} (hR : RightT t) {k : Int} (h0 : 0 ≤ k) (hk : k < 16) : (timesV t k).2 = 0 ∧ countV (timesV t k).1 0 t.frame = (long (tmL k t.windows), 0) ∧ lenL (k + 1) t.windows = lenL k t.windows + long (tmL k t.windows) ∧ 0 ≤ long (tmL k t.windows) ∧ long (tmL k t.windows) ≤ 1000000 ∧ 0 ≤ lenA t.windows ∧ lenA t.windows ≤ 1000000 := by
  have hn : ownB k = true := ownB_iff.2 ⟨h0, hk⟩
  have hb := long_bd (n := k) hR.ok (Int.le_refl 0) (by have := hR.s1; omega)
  have hs2 := hR.s2
  exact ⟨(times_rt hR hn).e, times_long hR hn, lenL_next, hb.1, by omega, by omega, by omega⟩
theorem lenA_bd {t : Table} (hR : RightT t) (k : Nat) : 0 ≤ lenA (t.windows.drop k) ∧ lenA (t.windows.drop k) ≤ 1000000 := by
  have hb := apart_k hR (k := 0) (by decide) (by decide)
  have hall : ∀ w ∈ t.windows, 0 ≤ w.long := fun w hw => by
    have := winB_iff.1 (okW_all (Int.le_refl 0) hR.ok w hw)
    omega
  have hp : ∀ (l : List Window), (∀ w ∈ l, 0 ≤ w.long) → ∀ k, 0 ≤ lenA (l.drop k) ∧ lenA (l.drop k) ≤ lenA l := by
    intro l
    induction l with
    | nil => intro _ k; rw [List.drop_nil]; exact ⟨Int.le_refl _, Int.le_refl _⟩
    | cons w r ih =>
      intro h k
      have hw := h w (by simp)
      have ih := ih fun x hx => h x (by simp [hx])
      have h0 := (ih 0).1
      rw [List.drop_zero] at h0
      cases k with
      | zero => rw [List.drop_zero, lenA]; omega
      | succ j => rw [List.drop_succ_cons, lenA]; have := ih j; omega
  have := hp _ hall k
  omega
set_option maxRecDepth 100000 in
set_option maxHeartbeats 4000000 in
theorem tbapart_vc (t : Table) (a : Int) (b : Int) (x : Int) (fit_t : Siz.fit t) (fit_a : Siz.fit a) (fit_b : Siz.fit b) (fit_x : Siz.fit x) (hB : Siz.bulk t + Siz.bulk a + Siz.bulk b + Siz.bulk x ≤ 1048576) : FnOk Try.prog 6 [.agg (Dat.enc fun _ => t), .i .i64 fun _ => a, .i .i64 fun _ => b, .i .i64 fun _ => x] [] (outA (.bc true) []) := by
  refine fn_ok envOk zl cTbA_ok (draws_ok envOk zl dTbA_ok mixed) (keep := [0, 1, 2, 3, 4, 8, 9, 10, 11, 12, 13, 14, 15, 16, 17, 18, 19, 20, 21, 22, 23, 24, 26, 33, 63, 77, 83, 98, 99, 100, 120, 126, 127, 128, 129]) Try.func6 rfl ?_
  have fin := @fin_b
  have finc := @fin_t
  have hl : t.windows.length ≤ 1048576 := by
    have h1 := bulk_len (α := Window) Window.one_le t.windows
    simp only [Siz.bulk] at hB h1
    omega
  generalize outA (.bc true) [] = K at fin finc
  cbv
  repeat' first | (show Stp _; exfalso; first | omega | (exact h ‹_›) | (exact absurd ‹_› h) | (exact Bool.false_ne_true (h.symm.trans (show _ = true by assumption)))) | (refine Stp.mk ?_; cbv) | (refine Gen.mk fun r hr => ?_; (try simp only [Dat.ok, Dat.dec, Leaf.ok, Leaf.val, Span.eta, Set.eta, Window.eta, Table.eta, Want.eta, val_sl, val_nil] at hr); cbv) | exact trivial | rfl | refine Both.mk ?_ ?_ | (refine Imp.mk fun h => ?_; (try dsimp only at h); (try simp only [nc, Int.toNat_natCast, Bool.not_eq_true', Bool.not_eq_false', decide_eq_true_eq, decide_eq_false_iff_not, beq_iff_eq, beq_eq_false_iff_ne, ba_inj, bne_iff_ne, ne_eq, Bool.and_eq_true, Bool.or_eq_true, Bool.and_eq_false_iff, Bool.or_eq_false_iff, Int.not_le, Int.not_lt, Nat.not_le, Nat.not_lt] at h); (try simp only [nc] at h)) | refine Ob.mk ?_ ?_ | refine Chk.mk (by kernel_rfl) ?_ | refine Eq'.mk ?_ | (refine AllN.mk fun i hi => ?_; cbv) | (refine AllS.mk fun r hr => ?_; (try simp only [Dat.ok, Dat.dec, Leaf.ok, Leaf.val, Span.eta, Set.eta, Window.eta, Table.eta, Want.eta, val_sl] at hr); cbv)
  all_goals ((try dsimp only at *); (try simp only [nc, Int.toNat_natCast, Bool.not_eq_true', Bool.not_eq_false', decide_eq_true_eq, decide_eq_false_iff_not, beq_iff_eq, beq_eq_false_iff_ne, ba_inj, bne_iff_ne, ne_eq, Bool.and_eq_true, Bool.or_eq_true, Bool.and_eq_false_iff, Bool.or_eq_false_iff, Int.not_le, Int.not_lt, Nat.not_le, Nat.not_lt] at *); (try simp only [nc] at *))
  all_goals try simp only [Dat.dec, Leaf.val, Span.eta, Set.eta, Window.eta, Table.eta, Want.eta, val_sl] at *
  all_goals have tl1 := times_len t a
  all_goals have tl2 := times_len t b
  all_goals repeat (rename (_ = timesV _ _) => hq3; subst hq3)
  all_goals try (have hw : wchkV t = 0 := by assumption
                 have hR := wchk_iff.1 hw)
  all_goals first
    | exact finc
    | exact ⟨⟨trivial, rfl, fun i _ => Dat.hok _⟩, show _ ≤ _ by omega⟩
    | exact ⟨⟨trivial, rfl, fun i _ => Dat.hok _⟩, ⟨trivial, rfl, fun i _ => Dat.hok _⟩, show _ ≤ _ by omega, show _ ≤ _ by omega⟩
    | skip
  all_goals try (rename (_ = bothP _ _) => hq3; subst hq3)
  all_goals try (have hbo := times_both (show (timesV t a).2 = 0 by assumption) (show (timesV t b).2 = 0 by assumption) (by assumption))
  all_goals try (have hha := times_has (show (timesV t a).2 = 0 by assumption) (show (ownerV t x).2 = 0 by assumption))
  all_goals first
    | exact Nat.le_refl _
    | (exfalso; exact absurd hbo.1 (by assumption))
    | (exfalso; have hb2 := hbo.2; simp_all; done)
    | (exfalso; simp only [hha] at *; first | exact absurd rfl (by assumption) | exact absurd trivial (by assumption))
    | skip
  all_goals have s1 := hR.s1
  all_goals have s2 := hR.s2
  all_goals have hf := apart_f hR x
  all_goals refine LoopVC.frame [8, 19, 20, 21, 22, 23, 24, 99, 100, 120] (Σ' k : Int, 0 ≤ k ∧ k ≤ 16 ∧ 0 ≤ lenL k t.windows ∧ lenL k t.windows ≤ k * 1000000) (fun x => [(99, .i .i64 fun _ => x.1), (19, .i .i64 fun _ => lenL x.1 t.windows)]) (fun _ => []) [] (fun x => (16 - x.1).toNat) ⟨0, by decide, by decide, by rw [hf.1]; decide⟩ rfl (fun _ => rfl) ?_ ?_ fun ⟨k, k0, hk, hs1, hs2⟩ => ?_
  all_goals first
    | (cbv
       repeat' first | (refine Stp.mk ?_; cbv) | (refine Gen.mk fun r hr => ?_; (try simp only [Dat.ok, Dat.dec, Leaf.ok, Leaf.val, Span.eta, Set.eta, Window.eta, Table.eta, Want.eta, val_sl, val_nil] at hr); cbv) | exact trivial | rfl | refine Both.mk ?_ ?_ | (refine Imp.mk fun h => ?_; (try dsimp only at h); (try simp only [nc, Int.toNat_natCast, Bool.not_eq_true', Bool.not_eq_false', decide_eq_true_eq, decide_eq_false_iff_not, beq_iff_eq, beq_eq_false_iff_ne, ba_inj, bne_iff_ne, ne_eq, Bool.and_eq_true, Bool.or_eq_true, Bool.and_eq_false_iff, Bool.or_eq_false_iff, Int.not_le, Int.not_lt, Nat.not_le, Nat.not_lt] at h); (try simp only [nc] at h)) | refine Ob.mk ?_ ?_ | refine Chk.mk (by kernel_rfl) ?_ | refine Eq'.mk ?_ | (refine AllN.mk fun i hi => ?_; cbv) | (refine AllS.mk fun r hr => ?_; (try simp only [Dat.ok, Dat.dec, Leaf.ok, Leaf.val, Span.eta, Set.eta, Window.eta, Table.eta, Want.eta, val_sl] at hr); cbv)
       all_goals first | rfl | exact hf.1.symm)
    | skip
  all_goals have hk3 := fun hk2 => apart_k hR (k := k) k0 hk2
  all_goals cbv
  repeat' first | (show Stp _; exfalso; first | omega | (exact h ‹_›) | (exact absurd ‹_› h) | (exact Bool.false_ne_true (h.symm.trans (show _ = true by assumption)))) | (refine Stp.mk ?_; cbv) | (refine Gen.mk fun r hr => ?_; (try simp only [Dat.ok, Dat.dec, Leaf.ok, Leaf.val, Span.eta, Set.eta, Window.eta, Table.eta, Want.eta, val_sl, val_nil] at hr); cbv) | exact trivial | rfl | refine Both.mk ?_ ?_ | (refine Imp.mk fun h => ?_; (try dsimp only at h); (try simp only [nc, Int.toNat_natCast, Bool.not_eq_true', Bool.not_eq_false', decide_eq_true_eq, decide_eq_false_iff_not, beq_iff_eq, beq_eq_false_iff_ne, ba_inj, bne_iff_ne, ne_eq, Bool.and_eq_true, Bool.or_eq_true, Bool.and_eq_false_iff, Bool.or_eq_false_iff, Int.not_le, Int.not_lt, Nat.not_le, Nat.not_lt] at h); (try simp only [nc] at h)) | refine Ob.mk ?_ ?_ | refine Chk.mk (by kernel_rfl) ?_ | refine Eq'.mk ?_ | (refine AllN.mk fun i hi => ?_; cbv) | (refine AllS.mk fun r hr => ?_; (try simp only [Dat.ok, Dat.dec, Leaf.ok, Leaf.val, Span.eta, Set.eta, Window.eta, Table.eta, Want.eta, val_sl] at hr); cbv)
  all_goals ((try dsimp only at *); (try simp only [nc, Int.toNat_natCast, Bool.not_eq_true', Bool.not_eq_false', decide_eq_true_eq, decide_eq_false_iff_not, beq_iff_eq, beq_eq_false_iff_ne, ba_inj, bne_iff_ne, ne_eq, Bool.and_eq_true, Bool.or_eq_true, Bool.and_eq_false_iff, Bool.or_eq_false_iff, Int.not_le, Int.not_lt, Nat.not_le, Nat.not_lt] at *); (try simp only [nc] at *))
  all_goals try simp only [nc] at *
  all_goals try simp only [Dat.dec, Leaf.val, Span.eta, Set.eta, Window.eta, Table.eta, Want.eta, val_sl] at *
  all_goals try (
    have hk15 : k < 16 := by omega
    obtain ⟨k1, k2, k3, k4, k5, k6, k7⟩ := hk3 hk15
    have k8 := times_len t k)
  all_goals try (rename (_ = timesV _ _) => hq3; subst hq3)
  all_goals try simp only [k1, k2] at *
  all_goals first
    | omega
    | exact Nat.le_refl _
    | exact ⟨⟨trivial, rfl, fun i _ => Dat.hok _⟩, show _ ≤ _ by omega⟩
    | (unfold InR; omega)
    | (exfalso; exact h rfl)
    | (exfalso; exact h trivial)
    | (exfalso; exact absurd rfl (by assumption))
    | (exfalso; exact absurd trivial (by assumption))
    | (refine ⟨⟨k + 1, by omega, by omega, by omega, by omega⟩, ?_, ?_, rfl, by (try dsimp only); omega⟩
       · cbv
         repeat' first | (refine Stp.mk ?_; cbv) | (refine Gen.mk fun r hr => ?_; (try simp only [Dat.ok, Dat.dec, Leaf.ok, Leaf.val, Span.eta, Set.eta, Window.eta, Table.eta, Want.eta, val_sl, val_nil] at hr); cbv) | exact trivial | rfl | refine Both.mk ?_ ?_ | (refine Imp.mk fun h => ?_; (try dsimp only at h); (try simp only [nc, Int.toNat_natCast, Bool.not_eq_true', Bool.not_eq_false', decide_eq_true_eq, decide_eq_false_iff_not, beq_iff_eq, beq_eq_false_iff_ne, ba_inj, bne_iff_ne, ne_eq, Bool.and_eq_true, Bool.or_eq_true, Bool.and_eq_false_iff, Bool.or_eq_false_iff, Int.not_le, Int.not_lt, Nat.not_le, Nat.not_lt] at h); (try simp only [nc] at h)) | refine Ob.mk ?_ ?_ | refine Chk.mk (by kernel_rfl) ?_ | refine Eq'.mk ?_ | (refine AllN.mk fun i hi => ?_; cbv) | (refine AllS.mk fun r hr => ?_; (try simp only [Dat.ok, Dat.dec, Leaf.ok, Leaf.val, Span.eta, Set.eta, Window.eta, Table.eta, Want.eta, val_sl] at hr); cbv)
         all_goals first | rfl | (show _ = lenL (k + 1) t.windows; omega)
       · cbv
         repeat' first | (refine Stp.mk ?_; cbv) | (refine Gen.mk fun r hr => ?_; (try simp only [Dat.ok, Dat.dec, Leaf.ok, Leaf.val, Span.eta, Set.eta, Window.eta, Table.eta, Want.eta, val_sl, val_nil] at hr); cbv) | exact trivial | rfl | refine Both.mk ?_ ?_ | (refine Imp.mk fun h => ?_; (try dsimp only at h); (try simp only [nc, Int.toNat_natCast, Bool.not_eq_true', Bool.not_eq_false', decide_eq_true_eq, decide_eq_false_iff_not, beq_iff_eq, beq_eq_false_iff_ne, ba_inj, bne_iff_ne, ne_eq, Bool.and_eq_true, Bool.or_eq_true, Bool.and_eq_false_iff, Bool.or_eq_false_iff, Int.not_le, Int.not_lt, Nat.not_le, Nat.not_lt] at h); (try simp only [nc] at h)) | refine Ob.mk ?_ ?_ | refine Chk.mk (by kernel_rfl) ?_ | refine Eq'.mk ?_ | (refine AllN.mk fun i hi => ?_; cbv) | (refine AllS.mk fun r hr => ?_; (try simp only [Dat.ok, Dat.dec, Leaf.ok, Leaf.val, Span.eta, Set.eta, Window.eta, Table.eta, Want.eta, val_sl] at hr); cbv))
    | skip
  all_goals have hk16 : k = 16 := (by omega)
  all_goals have hsum : lenL k t.windows = lenA t.windows := (by rw [hk16]; exact hf.2.1)
  all_goals have hlA := lenA_bd hR
  all_goals refine LoopVC.frame [19, 26, 128, 129] (Σ' j : Nat, j ≤ t.windows.length) (fun x => [(128, .i .i64 fun _ => x.1), (19, .i .i64 fun _ => lenA (t.windows.drop x.1))]) (fun _ => []) [] (fun x => t.windows.length - x.1) ⟨0, Nat.zero_le _⟩ rfl (fun _ => rfl) ?_ ?_ fun ⟨j, hj⟩ => ?_
  all_goals first
    | (cbv
       repeat' first | (refine Stp.mk ?_; cbv) | (refine Gen.mk fun r hr => ?_; (try simp only [Dat.ok, Dat.dec, Leaf.ok, Leaf.val, Span.eta, Set.eta, Window.eta, Table.eta, Want.eta, val_sl, val_nil] at hr); cbv) | exact trivial | rfl | refine Both.mk ?_ ?_ | (refine Imp.mk fun h => ?_; (try dsimp only at h); (try simp only [nc, Int.toNat_natCast, Bool.not_eq_true', Bool.not_eq_false', decide_eq_true_eq, decide_eq_false_iff_not, beq_iff_eq, beq_eq_false_iff_ne, ba_inj, bne_iff_ne, ne_eq, Bool.and_eq_true, Bool.or_eq_true, Bool.and_eq_false_iff, Bool.or_eq_false_iff, Int.not_le, Int.not_lt, Nat.not_le, Nat.not_lt] at h); (try simp only [nc] at h)) | refine Ob.mk ?_ ?_ | refine Chk.mk (by kernel_rfl) ?_ | refine Eq'.mk ?_ | (refine AllN.mk fun i hi => ?_; cbv) | (refine AllS.mk fun r hr => ?_; (try simp only [Dat.ok, Dat.dec, Leaf.ok, Leaf.val, Span.eta, Set.eta, Window.eta, Table.eta, Want.eta, val_sl] at hr); cbv)
       all_goals first | rfl | (show _ = lenA (t.windows.drop 0); rw [List.drop_zero]; exact hsum))
    | skip
  all_goals have hj3 := fun hj2 => lenA_drop (l := t.windows) (k := j) hj2
  all_goals have hj4 := hlA j
  all_goals have hj5 := hlA (j + 1)
  all_goals have hj6 : t.windows.length ≤ j → lenA (t.windows.drop j) = 0 := fun q => (by rw [List.drop_eq_nil_of_le q]; rfl)
  all_goals cbv
  repeat' first | (show Stp _; exfalso; first | omega | (exact h ‹_›) | (exact absurd ‹_› h) | (exact Bool.false_ne_true (h.symm.trans (show _ = true by assumption)))) | (refine Stp.mk ?_; cbv) | (refine Gen.mk fun r hr => ?_; (try simp only [Dat.ok, Dat.dec, Leaf.ok, Leaf.val, Span.eta, Set.eta, Window.eta, Table.eta, Want.eta, val_sl, val_nil] at hr); cbv) | exact trivial | rfl | refine Both.mk ?_ ?_ | (refine Imp.mk fun h => ?_; (try dsimp only at h); (try simp only [nc, Int.toNat_natCast, Bool.not_eq_true', Bool.not_eq_false', decide_eq_true_eq, decide_eq_false_iff_not, beq_iff_eq, beq_eq_false_iff_ne, ba_inj, bne_iff_ne, ne_eq, Bool.and_eq_true, Bool.or_eq_true, Bool.and_eq_false_iff, Bool.or_eq_false_iff, Int.not_le, Int.not_lt, Nat.not_le, Nat.not_lt] at h); (try simp only [nc] at h)) | refine Ob.mk ?_ ?_ | refine Chk.mk (by kernel_rfl) ?_ | refine Eq'.mk ?_ | (refine AllN.mk fun i hi => ?_; cbv) | (refine AllS.mk fun r hr => ?_; (try simp only [Dat.ok, Dat.dec, Leaf.ok, Leaf.val, Span.eta, Set.eta, Window.eta, Table.eta, Want.eta, val_sl] at hr); cbv)
  all_goals ((try dsimp only at *); (try simp only [nc, Int.toNat_natCast, Bool.not_eq_true', Bool.not_eq_false', decide_eq_true_eq, decide_eq_false_iff_not, beq_iff_eq, beq_eq_false_iff_ne, ba_inj, bne_iff_ne, ne_eq, Bool.and_eq_true, Bool.or_eq_true, Bool.and_eq_false_iff, Bool.or_eq_false_iff, Int.not_le, Int.not_lt, Nat.not_le, Nat.not_lt] at *); (try simp only [nc] at *))
  all_goals try simp only [nc] at *
  all_goals try simp only [Dat.dec, Leaf.val, Span.eta, Set.eta, Window.eta, Table.eta, Want.eta, val_sl] at *
  all_goals try (have hj2 : j < t.windows.length := by omega
                 have hj7 := hj3 hj2)
  all_goals first
    | omega
    | exact ⟨by omega, by omega⟩
    | (unfold InR; omega)
    | exact finc
    | exact fin (decide_eq_true (hf.2.2 (by assumption)).2)
    | (exfalso; have hj8 := hf.2.2 (by assumption); omega)
    | (exfalso; have hj8 := hj6 (by omega); omega)
    | skip
  all_goals refine ⟨⟨j + 1, by omega⟩, ?_, ?_, rfl, by (try dsimp only); omega⟩
  all_goals cbv
  repeat' first | (refine Stp.mk ?_; cbv) | (refine Gen.mk fun r hr => ?_; (try simp only [Dat.ok, Dat.dec, Leaf.ok, Leaf.val, Span.eta, Set.eta, Window.eta, Table.eta, Want.eta, val_sl, val_nil] at hr); cbv) | exact trivial | rfl | refine Both.mk ?_ ?_ | (refine Imp.mk fun h => ?_; (try dsimp only at h); (try simp only [nc, Int.toNat_natCast, Bool.not_eq_true', Bool.not_eq_false', decide_eq_true_eq, decide_eq_false_iff_not, beq_iff_eq, beq_eq_false_iff_ne, ba_inj, bne_iff_ne, ne_eq, Bool.and_eq_true, Bool.or_eq_true, Bool.and_eq_false_iff, Bool.or_eq_false_iff, Int.not_le, Int.not_lt, Nat.not_le, Nat.not_lt] at h); (try simp only [nc] at h)) | refine Ob.mk ?_ ?_ | refine Chk.mk (by kernel_rfl) ?_ | refine Eq'.mk ?_ | (refine AllN.mk fun i hi => ?_; cbv) | (refine AllS.mk fun r hr => ?_; (try simp only [Dat.ok, Dat.dec, Leaf.ok, Leaf.val, Span.eta, Set.eta, Window.eta, Table.eta, Want.eta, val_sl] at hr); cbv)
  all_goals first
    | rfl
    | omega
    | (show _ = lenA (t.windows.drop (j + 1)); omega)
    | fail
section
open Go.ChangeShapes Go.WideShapes Go.ChangeAt Go.RowKit Go.Joins Go.Deep
set_option linter.unusedVariables false
theorem tbapart_own : ownKnob Try.prog.godebug = none := by kernel_rfl
theorem tbapart_laidOut : laidOutB Try.prog = true := by kernel_rfl
theorem tbapart_readOk {ts : Array TypeId} (h : ts.toList.all (fun t => Try.prog.readableRec t && decide (t < Try.prog.types.size)) = true) : ∀ t ∈ ts.toList, Try.prog.readableRec t = true ∧ t < Try.prog.types.size := fun t ht => by
  have := List.all_eq_true.1 h t ht
  simpa using this
mutual
theorem tbapart_bD {H : Type} : ∀ d : DataW H, Rows.uptoBulk d = bulkD d
  | .lit l => by cases l <;> simp [Rows.uptoBulk, bulkD]
  | .nil => by simp [Rows.uptoBulk, bulkD]
  | .ptr d => by simp [Rows.uptoBulk, bulkD, tbapart_bD d]
  | .slice a b => by simp [Rows.uptoBulk, bulkD, tbapart_bL a, tbapart_bL b]
  | .agg a => by simp [Rows.uptoBulk, bulkD, tbapart_bL a]
  | .iface _ d => by simp [Rows.uptoBulk, bulkD, tbapart_bD d]
  | .map e => by simp [Rows.uptoBulk, bulkD, tbapart_bE e]
  | .held _ => by simp [Rows.uptoBulk, bulkD]
theorem tbapart_bL {H : Type} : ∀ d : List (DataW H), Rows.uptoBulkAll d = bulkL d
  | [] => by simp [Rows.uptoBulkAll, bulkL]
  | d :: r => by simp [Rows.uptoBulkAll, bulkL, tbapart_bD d, tbapart_bL r]
theorem tbapart_bE {H : Type} : ∀ d : List (Lit × DataW H), Rows.uptoBulkEntries d = bulkE d
  | [] => by simp [Rows.uptoBulkEntries, bulkE]
  | d :: r => by simp [Rows.uptoBulkEntries, bulkE, tbapart_bX d, tbapart_bE r]
theorem tbapart_bX {H : Type} : ∀ d : Lit × DataW H, Rows.uptoBulkEntry d = bulkX d
  | (l, d) => by cases l <;> simp [Rows.uptoBulkEntry, bulkX, tbapart_bD d]
end
set_option maxRecDepth 100000 in
theorem tbapart_lifted (os : Os) (started : os.Started) (H : Type) (enc : TypeId × Value → H) (F : Stop.Interp) :
    ReturnsInHanded {} Try.checked os 6 .any ((Rows.OpenSpec.upto Rows.tableApartSpec).pre6 enc Try.prog Try.f6 Rows.tableApartUptoRow.domain false) (((Rows.OpenSpec.upto Rows.tableApartSpec).at F).post enc Try.prog Try.f6 false true false false) := by
  refine returnsInHanded_of_cond (C := Try.checked) (s := Rows.OpenSpec.upto Rows.tableApartSpec) (k := Rows.uptoSmall) rfl tbapart_own started (by kernel_rfl) Try.func6
    (OpenSpec.witness (enc := enc) (C := Try.checked) (s := Rows.OpenSpec.upto Rows.tableApartSpec) (k := Rows.uptoSmall) rfl false ⟨#[], #[.agg #[.int .i64 0, .slice none 0 0], .int .i64 0, .int .i64 0, .int .i64 0], []⟩ 8 (by kernel_rfl) (by kernel_rfl) (by kernel_rfl)
      (x := ([.agg [.lit (.int .i64 0), .nil], .lit (.int .i64 0), .lit (.int .i64 0), .lit (.int .i64 0)], [], [])) (by kernel_rfl) rfl (by kernel_rfl)) ?_
  intro W base args ds gs before hval0 hW _ hk _
  show Calls Try.prog 6 args W fun e W' => ∃ v, e = .returned v ∧ Rows.tableApartSpec.post enc Try.prog Try.f6 false true false false W args v W'
  have hval : ∀ (j : Nat) t v, Try.f6.params[j]? = some t → args[j]? = some v → Value.okWide Try.prog W .any base t v := hval0
  have hW' := hW
  have hlt := hW.lt
  obtain ⟨p, q, hA0, hV, rfl, hfz, hnd⟩ := hW
  have hA : DataW.TrodAll enc Try.prog W 0 (fun _ => true) true Try.f6.params.toList args.toList ds p := hA0
  have hA1 := hA
  rw [Try.params6] at hA hval
  obtain ⟨v0, vs0, d0, ds0, p0, q0, hargs, rfl, rfl, h0, r0⟩ := trodAll_cons hA
  obtain ⟨v1, vs1, d1, ds1, p1, q1, rfl, rfl, rfl, h1, r1⟩ := trodAll_cons r0
  obtain ⟨v2, vs2, d2, ds2, p2, q2, rfl, rfl, rfl, h2, r2⟩ := trodAll_cons r1
  obtain ⟨v3, vs3, d3, ds3, p3, q3, rfl, rfl, rfl, h3, r3⟩ := trodAll_cons r2
  obtain ⟨rfl, rfl, rfl⟩ := trodAll_nil r3
  obtain rfl : args = #[v0, v1, v2, v3] := by cases args; simp_all
  obtain ⟨rfl, rfl⟩ := trodVars_none hV
  obtain ⟨cs0, rfl, _⟩ := okWide_struct Try.underlying24 (hval 0 24 v0 rfl rfl)
  obtain ⟨y0, u0, b0, e0⟩ := arg_agg (α := Table) opn_Table h0
  obtain ⟨z1, rfl⟩ := okWide_int Try.underlying3 (hval 1 3 v1 rfl rfl)
  obtain ⟨y1, u1, b1, e1⟩ := arg_leaf (α := Int) (opn_int Try.underlying3) rfl h1
  obtain ⟨z2, rfl⟩ := okWide_int Try.underlying3 (hval 2 3 v2 rfl rfl)
  obtain ⟨y2, u2, b2, e2⟩ := arg_leaf (α := Int) (opn_int Try.underlying3) rfl h2
  obtain ⟨z3, rfl⟩ := okWide_int Try.underlying3 (hval 3 3 v3 rfl rfl)
  obtain ⟨y3, u3, b3, e3⟩ := arg_leaf (α := Int) (opn_int Try.underlying3) rfl h3
  have hB : Siz.bulk y0 + Siz.bulk y1 + Siz.bulk y2 + Siz.bulk y3 ≤ 1048576 := by
    have h := of_decide_eq_true hk
    rw [tbapart_bL] at h
    simp only [List.append_nil, bulkL] at h
    omega
  have hR := repL_cons (M := fun _ => False) (β := fun _ => none) (cp := fun _ => 0) (.c e0) (repL_cons (M := fun _ => False) (β := fun _ => none) (cp := fun _ => 0) (.c e1) (repL_cons (M := fun _ => False) (β := fun _ => none) (cp := fun _ => 0) (.c e2) (repL_cons (M := fun _ => False) (β := fun _ => none) (cp := fun _ => 0) (.c e3) (repL_nil))))
  refine (law_callsA (tbapart_vc y0 y1 y2 y3 u0 u1 u2 u3 hB) hR).mono fun e W' ⟨he, bel⟩ => ?_
  subst he
  exact ⟨_, rfl, _, _, _, [], _, [], hW', trodAll_mk1 (shut_bool Try.underlying4 _), trodAll_below tbapart_laidOut bel (tbapart_readOk (by kernel_rfl)) (fun x hx => hlt x (List.mem_append_left _ hx)) hA1, rfl, bel.frame _, fun h => by cases h⟩
theorem TableApart_proved : Rows.TableApartUptoSaid :=
  OpenClaim.holds_of_cond 6 Try.f6 rfl rfl rfl rfl rfl rfl rfl ⟨rfl, rfl, rfl, rfl, rfl⟩ rfl rfl rfl rfl rfl (by kernel_rfl) Try.func6 (by kernel_rfl)
    (of_decide_eq_true (by kernel_rfl)) (by unfold Func.isWrapper; first | (rw [if_pos (by decide +kernel)]; kernel_rfl) | (rw [if_neg (by decide +kernel)]; exact ⟨rfl, rfl⟩))
    (fun os started H enc _ F => tbapart_lifted os started H enc F)
end

end Go.Proofs.Ytadjemhbfaonbaa
