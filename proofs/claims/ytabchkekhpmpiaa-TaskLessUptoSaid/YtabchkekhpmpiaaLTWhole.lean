/- With all times there are it fits just if no more is needed than there is; for all inputs. -/
import Derived.Test.YtabchkekhpmpiaaTaskP
import Derived.Test.YtabchkekhpmpiaaDel
set_option linter.all false
namespace Go.Proofs.Ytabchkekhpmpiaa
open Go Go.Abs

def allT (t : Task) : Task := ⟨t.long, t.every, t.every⟩
def dueU (l : List Task) (k : Nat) : List Task := lst l.length fun i => if i < k then allT (l.getD i Dat.d0) else l.getD i Dat.d0
theorem dueU_len (l : List Task) (k : Nat) : (dueU l k).length = l.length := lst_len _ _
theorem dueU_get {l : List Task} {k i : Nat} (h : i < l.length) : (dueU l k).getD i Dat.d0 = if i < k then allT (l.getD i Dat.d0) else l.getD i Dat.d0 := lst_get h
theorem dueU_zero (l : List Task) : dueU l 0 = l := lst_eq (d := Dat.d0) rfl fun i hi => by rw [if_neg (by omega)]
theorem mapT_get {l : List Task} {i : Nat} (h : i < l.length) : (l.map allT).getD i Dat.d0 = allT (l.getD i Dat.d0) := by
  rw [List.getD_eq_getElem?_getD, List.getD_eq_getElem?_getD, List.getElem?_map, List.getElem?_eq_getElem h]; rfl
theorem dueU_done {l : List Task} {k : Nat} (h : l.length ≤ k) : dueU l k = l.map allT := by
  refine lst_eq (d := Dat.d0) (by simp) fun i hi => ?_
  rw [if_pos (by omega), mapT_get hi]
theorem dueU_step {l : List Task} {k i : Nat} (hi : i < l.length) : (dueU l (k + 1)).getD i Dat.d0 = if i = k then allT ((dueU l k).getD k Dat.d0) else (dueU l k).getD i Dat.d0 := by
  by_cases h : i = k
  · subst h
    rw [dueU_get hi, dueU_get hi, if_pos (by omega), if_pos rfl, if_neg (by omega)]
  · rw [if_neg h, dueU_get hi, dueU_get hi]
    by_cases h2 : i < k
    · rw [if_pos (by omega), if_pos h2]
    · rw [if_neg (by omega), if_neg h2]
def allS (size : Int) : Set := ⟨size, [⟨0, size⟩]⟩
theorem allS_right {size : Int} (h1 : 1 ≤ size) (h2 : size ≤ 1000000) : Right (allS size) :=
  ⟨h1, h2, show (1 : Nat) ≤ 200 by decide, okSp_iff.2 ⟨show (-1 : Int) < 0 by decide, show (0 : Int) < size by omega, Int.le_refl _, rfl⟩⟩
theorem allS_least {size : Int} (h1 : 1 ≤ size) (h2 : size ≤ 1000000) {n : Int} (hn : 0 ≤ n) : leastV (allS size) n = n := by
  have h := allS_right h1 h2
  have key : ∀ t, 0 ≤ t → uptoV (allS size) t = t := fun t ht => by
    obtain ⟨-, -, e3, e4, e5⟩ := divmod h ht
    have hq : 0 ≤ t / (allS size).size := Int.ediv_nonneg ht (by show 0 ≤ size; omega)
    have e := upto_at h hq e3 (by omega)
    rw [← e5] at e
    have hl : long (allS size).spans = (allS size).size := by show size - 0 + 0 = size; omega
    have hp : part (t % (allS size).size) (allS size).spans = t % (allS size).size := by
      show mx0 (mn size (t % (allS size).size) - 0) + 0 = _
      have : t % (allS size).size < size := e4
      unfold mx0 mn
      repeat' split
      all_goals omega
    rw [hl, hp] at e; omega
  obtain ⟨-, t, ht, e⟩ := leastV_spec h hn
  rw [e]; unfold win; rw [key _ (by omega), key _ ht]; omega
theorem use_all {n R : Int} (hn : 0 ≤ n) (hR : 1 ≤ R) : ∀ {l : List Task}, l.all okT = true → (∀ t ∈ l, t.every ∣ R) → (∀ t ∈ l, t.due = t.every) → demS n l * R ≤ n * useS R l
  | [], _, _, _ => by simp [demS, useS]
  | t :: r, h, hd, he => by
    simp only [List.all_cons, Bool.and_eq_true] at h
    have ih := use_all hn hR h.2 (fun x hx => hd x (List.mem_cons_of_mem _ hx)) (fun x hx => he x (List.mem_cons_of_mem _ hx))
    have ho := okT_iff.1 h.1
    have e := he t (List.mem_cons_self ..)
    obtain ⟨q, hq⟩ := hd t (List.mem_cons_self ..)
    have e1 : dem1 t n = n / t.every * t.long := by
      rw [dem1_eq h.1 hn, e, show n - t.every = n + (-1) * t.every by omega, Int.add_mul_ediv_right _ _ (by omega)]
      congr 1; omega
    have e2 : R.tdiv t.every = q := by
      rw [Int.tdiv_eq_ediv_of_nonneg (by omega), hq, Int.mul_ediv_cancel_left _ (by omega)]
    have hq0 : 0 ≤ q := by
      rcases Int.lt_or_le q 0 with h4 | h4
      · have : t.every * q ≤ t.every * (-1) := Int.mul_le_mul_of_nonneg_left (by omega) (by omega)
        omega
      · exact h4
    have e3 : n / t.every * t.every ≤ n := Int.ediv_mul_le _ (by omega)
    have e4 : n / t.every * t.long * R ≤ n * (q * t.long) := by
      have a := Int.mul_le_mul_of_nonneg_right e3 (Int.mul_nonneg hq0 (show 0 ≤ t.long by omega))
      rw [hq]
      have : n / t.every * t.long * (t.every * q) = n / t.every * t.every * (q * t.long) := by
        simp only [Int.mul_assoc, Int.mul_comm, Int.mul_left_comm]
      omega
    rw [demS, useS, e1, e2, Int.add_mul, Int.mul_add]; omega
theorem whole {l : List Task} {size : Int} (h1 : 1 ≤ size) (h2 : size ≤ 1000000) (h : (useV l).2.2 = 0) (he : ∀ t ∈ l, t.due = t.every) :
    (fitsV l (allS size)).2.2 = 6 ∨ (fitsV l (allS size)).2.2 = 0 ∧ (fitsV l (allS size)).1 = decide ((useV l).1 ≤ (useV l).2.1) := by
  obtain ⟨u1, u2⟩ := use_rt h
  obtain ⟨r1, r2, r3, r4, r5⟩ := round_ok u1
  have hR := allS_right h1 h2
  by_cases h0 : (fitsV l (allS size)).2.2 = 0
  · refine .inr ⟨h0, ?_⟩
    rw [u2]
    show _ = decide (useS (roundV l).1 l ≤ (roundV l).1)
    cases hb : (fitsV l (allS size)).1 with
    | true =>
      have := (fits_yes h0 hb).2 (roundV l).1 (by omega)
      rw [allS_least h1 h2 (by omega), ← (use_dem u1).1] at this
      exact (decide_eq_true this).symm
    | false =>
      obtain ⟨a, b, c, d⟩ := fits_not h0 hb
      rw [allS_least h1 h2 (by omega)] at c
      refine (decide_eq_false fun hle => ?_).symm
      have k := use_all (n := (fitsV l (allS size)).2.1) (by omega) r3 r2 (round_dvd u1) he
      generalize (fitsV l (allS size)).2.1 = n at *
      have k1 : n * useS (roundV l).1 l ≤ n * (roundV l).1 := Int.mul_le_mul_of_nonneg_left hle (by omega)
      have k2 : n * (roundV l).1 < demS n l * (roundV l).1 := Int.mul_lt_mul_of_pos_right c (by omega)
      omega
  · left
    have e := fits_e h0
    unfold fitsV at *
    rw [if_neg (fun q => q (tchk_iff.2 ⟨r1, r2⟩)), if_neg (fun q => q (check_iff.2 hR))] at *
    split
    · rfl
    · rename_i h3
      rw [if_neg h3] at *
      split
      · rfl
      · rename_i h4
        rw [if_neg h4] at *
        rcases scan_spec (l := l) (s := allS size) (dues_sorted l ((lcmV [(roundV l).1, (allS size).size]).1 + 1)) with ⟨e, -⟩ | ⟨b, -, e, -⟩
        · rw [e] at h0; exact absurd rfl h0
        · rw [e] at h0; exact absurd rfl h0
noncomputable def cTW : FuncId → Con := fun f => match f with
  | 19 => pureCon clTask_C
  | 33 => pureCon (detPC use_D)
  | 36 => pureCon (detPC fits_D)
  | 35 => pureCon (detPC tlives_D)
  | _ => fun _ _ _ => Bad 1001
theorem cTW_ok : ConOk Try.prog cTW := fun f A H K h => by
  unfold cTW at h
  split at h
  · exact ⟨⟨Try.f19, Try.func19, by kernel_rfl, by kernel_rfl⟩, pureCon_ok clTask_ok h⟩
  · exact ⟨⟨Try.f33, Try.func33, by kernel_rfl, by kernel_rfl⟩, pureCon_ok use_ok h⟩
  · exact ⟨⟨Try.f36, Try.func36, by kernel_rfl, by kernel_rfl⟩, pureCon_ok fits_ok h⟩
  · exact ⟨⟨Try.f35, Try.func35, by kernel_rfl, by kernel_rfl⟩, pureCon_ok tlives_ok h⟩
  · cases h
set_option maxRecDepth 100000 in
set_option maxHeartbeats 4000000 in
theorem twhole_vc (l : (List Task)) (size : Int) (fit_l : Siz.fit l) (fit_size : Siz.fit size) (hB : Siz.bulk l + Siz.bulk size ≤ 1048576) : FnOk Try.prog 12 [Leaf.av fun _ => l, .i .i64 fun _ => size] [] (outA (.bc true) []) := by
  refine fn_ok envOk zl cTW_ok noDraws_ok (keep := [0, 1, 4, 5, 6, 7, 8, 9, 11, 15, 16, 17, 48]) Try.func12 rfl ?_
  have fin := @fin_b
  have finc := @fin_t
  have hl : l.length ≤ 1048576 := by
    have h1 := bulk_len (α := Task) Task.one_le l
    simp only [Siz.bulk] at hB h1
    omega
  generalize outA (.bc true) [] = K at fin finc
  cbv
  repeat' first | (show Stp _; exfalso; first | omega | (exact h ‹_›) | (exact absurd ‹_› h) | (exact Bool.false_ne_true (h.symm.trans (show _ = true by assumption)))) | (refine Stp.mk ?_; cbv) | (refine Gen.mk fun r hr => ?_; (try simp only [Dat.ok, Dat.dec, Leaf.ok, Leaf.val, Span.eta, Set.eta, Task.eta, Done.eta, Late.eta, val_sl, val_nil] at hr); cbv) | exact trivial | rfl | refine Both.mk ?_ ?_ | (refine Imp.mk fun h => ?_; (try dsimp only at h); (try simp only [nc, Int.toNat_natCast, Bool.not_eq_true', Bool.not_eq_false', decide_eq_true_eq, decide_eq_false_iff_not, beq_iff_eq, beq_eq_false_iff_ne, ba_inj, bne_iff_ne, ne_eq, Bool.and_eq_true, Bool.or_eq_true, Bool.and_eq_false_iff, Bool.or_eq_false_iff, Int.not_le, Int.not_lt, Nat.not_le, Nat.not_lt] at h); (try simp only [nc] at h)) | refine Ob.mk ?_ ?_ | refine Chk.mk (by kernel_rfl) ?_ | refine Eq'.mk ?_ | (refine AllN.mk fun i hi => ?_; cbv) | (refine AllS.mk fun r hr => ?_; (try simp only [Dat.ok, Dat.dec, Leaf.ok, Leaf.val, Span.eta, Set.eta, Task.eta, Done.eta, Late.eta, val_sl] at hr); cbv)
  all_goals ((try dsimp only at *); (try simp only [nc, Int.toNat_natCast, Bool.not_eq_true', Bool.not_eq_false', decide_eq_true_eq, decide_eq_false_iff_not, beq_iff_eq, beq_eq_false_iff_ne, ba_inj, bne_iff_ne, ne_eq, Bool.and_eq_true, Bool.or_eq_true, Bool.and_eq_false_iff, Bool.or_eq_false_iff, Int.not_le, Int.not_lt, Nat.not_le, Nat.not_lt] at *); (try simp only [nc] at *))
  all_goals try simp only [Dat.dec, Leaf.val, Span.eta, Set.eta, Task.eta, Done.eta, Late.eta, val_sl] at *
  all_goals try (have hq2 : _ = r := hr.symm; clear hr; subst hq2)
  all_goals try (rename (_ = l) => hq3; have hq4 := hq3.symm; clear hq3; subst hq4)
  all_goals first
    | exact finc
    | exact ⟨⟨rfl, fun i _ => Dat.hok _⟩, show _ ≤ _ by omega⟩
    | skip
  refine LoopVC.frame [5, 16, 17] (Σ' k : Nat, k ≤ l.length) (fun x => [(16, .i .i64 fun _ => x.1)]) (fun x => [(0, vecO 32 fun _ => dueU l x.1)]) [] (fun x => l.length - x.1) ⟨0, Nat.zero_le _⟩ rfl (fun _ => rfl) ?_ ?_ fun ⟨k, hk⟩ => ?_
  · cbv
    repeat' first | (refine Stp.mk ?_; cbv) | (refine Gen.mk fun r hr => ?_; (try simp only [Dat.ok, Dat.dec, Leaf.ok, Leaf.val, Span.eta, Set.eta, Task.eta, Done.eta, Late.eta, val_sl, val_nil] at hr); cbv) | exact trivial | rfl | refine Both.mk ?_ ?_ | (refine Imp.mk fun h => ?_; (try dsimp only at h); (try simp only [nc, Int.toNat_natCast, Bool.not_eq_true', Bool.not_eq_false', decide_eq_true_eq, decide_eq_false_iff_not, beq_iff_eq, beq_eq_false_iff_ne, ba_inj, bne_iff_ne, ne_eq, Bool.and_eq_true, Bool.or_eq_true, Bool.and_eq_false_iff, Bool.or_eq_false_iff, Int.not_le, Int.not_lt, Nat.not_le, Nat.not_lt] at h); (try simp only [nc] at h)) | refine Ob.mk ?_ ?_ | refine Chk.mk (by kernel_rfl) ?_ | refine Eq'.mk ?_ | (refine AllN.mk fun i hi => ?_; cbv) | (refine AllS.mk fun r hr => ?_; (try simp only [Dat.ok, Dat.dec, Leaf.ok, Leaf.val, Span.eta, Set.eta, Task.eta, Done.eta, Late.eta, val_sl] at hr); cbv)
  · cbv
    repeat' first | (refine Stp.mk ?_; cbv) | (refine Gen.mk fun r hr => ?_; (try simp only [Dat.ok, Dat.dec, Leaf.ok, Leaf.val, Span.eta, Set.eta, Task.eta, Done.eta, Late.eta, val_sl, val_nil] at hr); cbv) | exact trivial | rfl | refine Both.mk ?_ ?_ | (refine Imp.mk fun h => ?_; (try dsimp only at h); (try simp only [nc, Int.toNat_natCast, Bool.not_eq_true', Bool.not_eq_false', decide_eq_true_eq, decide_eq_false_iff_not, beq_iff_eq, beq_eq_false_iff_ne, ba_inj, bne_iff_ne, ne_eq, Bool.and_eq_true, Bool.or_eq_true, Bool.and_eq_false_iff, Bool.or_eq_false_iff, Int.not_le, Int.not_lt, Nat.not_le, Nat.not_lt] at h); (try simp only [nc] at h)) | refine Ob.mk ?_ ?_ | refine Chk.mk (by kernel_rfl) ?_ | refine Eq'.mk ?_ | (refine AllN.mk fun i hi => ?_; cbv) | (refine AllS.mk fun r hr => ?_; (try simp only [Dat.ok, Dat.dec, Leaf.ok, Leaf.val, Span.eta, Set.eta, Task.eta, Done.eta, Late.eta, val_sl] at hr); cbv)
    all_goals ((try dsimp only at *); (try simp only [nc, Int.toNat_natCast, Bool.not_eq_true', Bool.not_eq_false', decide_eq_true_eq, decide_eq_false_iff_not, beq_iff_eq, beq_eq_false_iff_ne, ba_inj, bne_iff_ne, ne_eq, Bool.and_eq_true, Bool.or_eq_true, Bool.and_eq_false_iff, Bool.or_eq_false_iff, Int.not_le, Int.not_lt, Nat.not_le, Nat.not_lt] at *); (try simp only [nc] at *))
    all_goals first
      | (rw [dueU_zero]; done)
      | (rw [dueU_len]; done)
      | (rw [dueU_zero]; rfl)
      | fail
  · have hdl : (dueU l k).length = l.length := dueU_len l k
    have hg : k < l.length → (dueU l k).getD k Dat.d0 = l.getD k Dat.d0 := fun h => by rw [dueU_get (by omega), if_neg (by omega)]
    cbv
    repeat' first | (show Stp _; exfalso; first | omega | (exact h ‹_›) | (exact absurd ‹_› h) | (exact Bool.false_ne_true (h.symm.trans (show _ = true by assumption)))) | (refine Stp.mk ?_; cbv) | (refine Gen.mk fun r hr => ?_; (try simp only [Dat.ok, Dat.dec, Leaf.ok, Leaf.val, Span.eta, Set.eta, Task.eta, Done.eta, Late.eta, val_sl, val_nil] at hr); cbv) | exact trivial | rfl | refine Both.mk ?_ ?_ | (refine Imp.mk fun h => ?_; (try dsimp only at h); (try simp only [nc, Int.toNat_natCast, Bool.not_eq_true', Bool.not_eq_false', decide_eq_true_eq, decide_eq_false_iff_not, beq_iff_eq, beq_eq_false_iff_ne, ba_inj, bne_iff_ne, ne_eq, Bool.and_eq_true, Bool.or_eq_true, Bool.and_eq_false_iff, Bool.or_eq_false_iff, Int.not_le, Int.not_lt, Nat.not_le, Nat.not_lt] at h); (try simp only [nc] at h)) | refine Ob.mk ?_ ?_ | refine Chk.mk (by kernel_rfl) ?_ | refine Eq'.mk ?_ | (refine AllN.mk fun i hi => ?_; cbv) | (refine AllS.mk fun r hr => ?_; (try simp only [Dat.ok, Dat.dec, Leaf.ok, Leaf.val, Span.eta, Set.eta, Task.eta, Done.eta, Late.eta, val_sl] at hr); cbv)
    all_goals ((try dsimp only at *); (try simp only [nc, Int.toNat_natCast, Bool.not_eq_true', Bool.not_eq_false', decide_eq_true_eq, decide_eq_false_iff_not, beq_iff_eq, beq_eq_false_iff_ne, ba_inj, bne_iff_ne, ne_eq, Bool.and_eq_true, Bool.or_eq_true, Bool.and_eq_false_iff, Bool.or_eq_false_iff, Int.not_le, Int.not_lt, Nat.not_le, Nat.not_lt] at *); (try simp only [nc] at *))
    all_goals try rw [nc] at *
    all_goals try simp only [Dat.dec, Leaf.val, Span.eta, Set.eta, Task.eta, Done.eta, Late.eta, val_sl] at *
    all_goals have ev := val_len (α := Task) (l := dueU l k) (n := l.length) 3 hdl.symm
    all_goals have es : (slV (.sl 2 (fun _ => 1) fun _ => [.i .i64 fun _ => 0, .i .i64 fun _ => size]) : List Span) = [⟨0, size⟩] := rfl
    all_goals try simp only [ev, es] at *
    all_goals first
      | exact finc
      | exact Nat.le_refl _
      | omega
      | exact ⟨by omega, by omega⟩
      | (unfold InR; omega)
      | (refine ⟨⟨k + 1, by omega⟩, ?_, ?_, rfl, by (try dsimp only); omega⟩
         · cbv
           repeat' first | (refine Stp.mk ?_; cbv) | (refine Gen.mk fun r hr => ?_; (try simp only [Dat.ok, Dat.dec, Leaf.ok, Leaf.val, Span.eta, Set.eta, Task.eta, Done.eta, Late.eta, val_sl, val_nil] at hr); cbv) | exact trivial | rfl | refine Both.mk ?_ ?_ | (refine Imp.mk fun h => ?_; (try dsimp only at h); (try simp only [nc, Int.toNat_natCast, Bool.not_eq_true', Bool.not_eq_false', decide_eq_true_eq, decide_eq_false_iff_not, beq_iff_eq, beq_eq_false_iff_ne, ba_inj, bne_iff_ne, ne_eq, Bool.and_eq_true, Bool.or_eq_true, Bool.and_eq_false_iff, Bool.or_eq_false_iff, Int.not_le, Int.not_lt, Nat.not_le, Nat.not_lt] at h); (try simp only [nc] at h)) | refine Ob.mk ?_ ?_ | refine Chk.mk (by kernel_rfl) ?_ | refine Eq'.mk ?_ | (refine AllN.mk fun i hi => ?_; cbv) | (refine AllS.mk fun r hr => ?_; (try simp only [Dat.ok, Dat.dec, Leaf.ok, Leaf.val, Span.eta, Set.eta, Task.eta, Done.eta, Late.eta, val_sl] at hr); cbv)
         · cbv
           repeat' first | (refine Stp.mk ?_; cbv) | (refine Gen.mk fun r hr => ?_; (try simp only [Dat.ok, Dat.dec, Leaf.ok, Leaf.val, Span.eta, Set.eta, Task.eta, Done.eta, Late.eta, val_sl, val_nil] at hr); cbv) | exact trivial | rfl | refine Both.mk ?_ ?_ | (refine Imp.mk fun h => ?_; (try dsimp only at h); (try simp only [nc, Int.toNat_natCast, Bool.not_eq_true', Bool.not_eq_false', decide_eq_true_eq, decide_eq_false_iff_not, beq_iff_eq, beq_eq_false_iff_ne, ba_inj, bne_iff_ne, ne_eq, Bool.and_eq_true, Bool.or_eq_true, Bool.and_eq_false_iff, Bool.or_eq_false_iff, Int.not_le, Int.not_lt, Nat.not_le, Nat.not_lt] at h); (try simp only [nc] at h)) | refine Ob.mk ?_ ?_ | refine Chk.mk (by kernel_rfl) ?_ | refine Eq'.mk ?_ | (refine AllN.mk fun i hi => ?_; cbv) | (refine AllS.mk fun r hr => ?_; (try simp only [Dat.ok, Dat.dec, Leaf.ok, Leaf.val, Span.eta, Set.eta, Task.eta, Done.eta, Late.eta, val_sl] at hr); cbv)
           all_goals ((try dsimp only at *); (try simp only [nc, Int.toNat_natCast, Bool.not_eq_true', Bool.not_eq_false', decide_eq_true_eq, decide_eq_false_iff_not, beq_iff_eq, beq_eq_false_iff_ne, ba_inj, bne_iff_ne, ne_eq, Bool.and_eq_true, Bool.or_eq_true, Bool.and_eq_false_iff, Bool.or_eq_false_iff, Int.not_le, Int.not_lt, Nat.not_le, Nat.not_lt] at *); (try simp only [nc] at *))
           all_goals first
             | (rw [dueU_len, dueU_len]; done)
             | (rw [dueU_step (by omega)]
                by_cases hik : i = k
                · subst hik
                  simp [allT]
                · simp [hik])
             | fail)
      | exact ⟨⟨rfl, fun i _ => Dat.hok _⟩, show (dueU l k).length ≤ _ by omega⟩
      | exact ⟨⟨rfl, fun i _ => Dat.hok _⟩, ⟨trivial, rfl, fun i _ => ⟨trivial, trivial⟩⟩, show (dueU l k).length ≤ _ by omega, show (1 : Nat) ≤ _ by decide⟩
      | (rw [dueU_done (by omega)] at *
         have hw := whole (l := l.map allT) (size := size) (by omega) (by omega) (by assumption) (fun t ht => by obtain ⟨x, -, rfl⟩ := List.mem_map.1 ht; rfl)
         unfold allS at hw
         rcases hw with hw | ⟨hw, hw2⟩
         · first
             | exact absurd hw (by assumption)
             | (exfalso; omega)
         · first
             | exact absurd hw (by assumption)
             | (refine fin ?_; rw [hw2]; exact beq_self_eq_true _)
             | (exfalso; omega))
      | fail
section
open Go.ChangeShapes Go.WideShapes Go.ChangeAt Go.RowKit Go.Joins Go.Deep
set_option linter.unusedVariables false
theorem twhole_own : ownKnob Try.prog.godebug = none := by kernel_rfl
theorem twhole_laidOut : laidOutB Try.prog = true := by kernel_rfl
theorem twhole_readOk {ts : Array TypeId} (h : ts.toList.all (fun t => Try.prog.readableRec t && decide (t < Try.prog.types.size)) = true) : ∀ t ∈ ts.toList, Try.prog.readableRec t = true ∧ t < Try.prog.types.size := fun t ht => by
  have := List.all_eq_true.1 h t ht
  simpa using this
mutual
theorem twhole_bD {H : Type} : ∀ d : DataW H, Rows.uptoBulk d = bulkD d
  | .lit l => by cases l <;> simp [Rows.uptoBulk, bulkD]
  | .nil => by simp [Rows.uptoBulk, bulkD]
  | .ptr d => by simp [Rows.uptoBulk, bulkD, twhole_bD d]
  | .slice a b => by simp [Rows.uptoBulk, bulkD, twhole_bL a, twhole_bL b]
  | .agg a => by simp [Rows.uptoBulk, bulkD, twhole_bL a]
  | .iface _ d => by simp [Rows.uptoBulk, bulkD, twhole_bD d]
  | .map e => by simp [Rows.uptoBulk, bulkD, twhole_bE e]
  | .held _ => by simp [Rows.uptoBulk, bulkD]
theorem twhole_bL {H : Type} : ∀ d : List (DataW H), Rows.uptoBulkAll d = bulkL d
  | [] => by simp [Rows.uptoBulkAll, bulkL]
  | d :: r => by simp [Rows.uptoBulkAll, bulkL, twhole_bD d, twhole_bL r]
theorem twhole_bE {H : Type} : ∀ d : List (Lit × DataW H), Rows.uptoBulkEntries d = bulkE d
  | [] => by simp [Rows.uptoBulkEntries, bulkE]
  | d :: r => by simp [Rows.uptoBulkEntries, bulkE, twhole_bX d, twhole_bE r]
theorem twhole_bX {H : Type} : ∀ d : Lit × DataW H, Rows.uptoBulkEntry d = bulkX d
  | (l, d) => by cases l <;> simp [Rows.uptoBulkEntry, bulkX, twhole_bD d]
end
set_option maxRecDepth 100000 in
theorem twhole_lifted (os : Os) (started : os.Started) (H : Type) (enc : TypeId × Value → H) (F : Stop.Interp) :
    ReturnsInHanded {} Try.checked os 12 .any ((Rows.OpenSpec.upto Rows.taskWholeSpec).pre6 enc Try.prog Try.f12 Rows.taskWholeUptoRow.domain false) (((Rows.OpenSpec.upto Rows.taskWholeSpec).at F).post enc Try.prog Try.f12 false true false false) := by
  refine returnsInHanded_of_cond (C := Try.checked) (s := Rows.OpenSpec.upto Rows.taskWholeSpec) (k := Rows.uptoSmall) rfl twhole_own started (by kernel_rfl) Try.func12
    (OpenSpec.witness (enc := enc) (C := Try.checked) (s := Rows.OpenSpec.upto Rows.taskWholeSpec) (k := Rows.uptoSmall) rfl false ⟨#[], #[.slice none 0 0, .int .i64 0], []⟩ 8 (by kernel_rfl) (by kernel_rfl) (by kernel_rfl)
      (x := ([.nil, .lit (.int .i64 0)], [], [])) (by kernel_rfl) rfl (by kernel_rfl)) ?_
  intro W base args ds gs before hval0 hW _ hk _
  show Calls Try.prog 12 args W fun e W' => ∃ v, e = .returned v ∧ Rows.taskWholeSpec.post enc Try.prog Try.f12 false true false false W args v W'
  have hval : ∀ (j : Nat) t v, Try.f12.params[j]? = some t → args[j]? = some v → Value.okWide Try.prog W .any base t v := hval0
  have hW' := hW
  have hlt := hW.lt
  obtain ⟨p, q, hA0, hV, rfl, hfz, hnd⟩ := hW
  have hA : DataW.TrodAll enc Try.prog W 0 (fun _ => true) true Try.f12.params.toList args.toList ds p := hA0
  have hA1 := hA
  rw [Try.params12] at hA hval
  obtain ⟨v0, vs0, d0, ds0, p0, q0, hargs, rfl, rfl, h0, r0⟩ := trodAll_cons hA
  obtain ⟨v1, vs1, d1, ds1, p1, q1, rfl, rfl, rfl, h1, r1⟩ := trodAll_cons r0
  obtain ⟨rfl, rfl, rfl⟩ := trodAll_nil r1
  obtain rfl : args = #[v0, v1] := by cases args; simp_all
  obtain ⟨rfl, rfl⟩ := trodVars_none hV
  obtain ⟨z0, z'0, z''0, rfl⟩ := okWide_slice Try.underlying22 (hval 0 22 v0 rfl rfl)
  obtain ⟨y0, u0, b0, e0⟩ := arg_leaf (α := (List Task)) (opn_slice Try.underlying22 (by kernel_rfl) (by decide) opn_Task) rfl h0
  obtain ⟨z1, rfl⟩ := okWide_int Try.underlying3 (hval 1 3 v1 rfl rfl)
  obtain ⟨y1, u1, b1, e1⟩ := arg_leaf (α := Int) (opn_int Try.underlying3) rfl h1
  have hB : Siz.bulk y0 + Siz.bulk y1 ≤ 1048576 := by
    have h := of_decide_eq_true hk
    rw [twhole_bL] at h
    simp only [List.append_nil, bulkL] at h
    omega
  have hR := repL_cons (M := fun _ => False) (β := fun _ => none) (cp := fun _ => 0) (.c e0) (repL_cons (M := fun _ => False) (β := fun _ => none) (cp := fun _ => 0) (.c e1) (repL_nil))
  refine (law_callsA (twhole_vc y0 y1 u0 u1 hB) hR).mono fun e W' ⟨he, bel⟩ => ?_
  subst he
  exact ⟨_, rfl, _, _, _, [], _, [], hW', trodAll_mk1 (shut_bool Try.underlying4 _), trodAll_below twhole_laidOut bel (twhole_readOk (by kernel_rfl)) (fun x hx => hlt x (List.mem_append_left _ hx)) hA1, rfl, bel.frame _, fun h => by cases h⟩
theorem TaskWhole_proved : Rows.TaskWholeUptoSaid :=
  OpenClaim.holds_of_cond 12 Try.f12 rfl rfl rfl rfl rfl rfl rfl ⟨rfl, rfl, rfl, rfl, rfl⟩ rfl rfl rfl rfl rfl (by kernel_rfl) Try.func12 (by kernel_rfl)
    (of_decide_eq_true (by kernel_rfl)) (by unfold Func.isWrapper; first | (rw [if_pos (by decide +kernel)]; kernel_rfl) | (rw [if_neg (by decide +kernel)]; exact ⟨rfl, rfl⟩))
    (fun os started H enc _ F => twhole_lifted os started H enc F)
end

end Go.Proofs.Ytabchkekhpmpiaa
