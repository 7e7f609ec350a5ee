/- What fits fits with a task less, or with one that needs less, or has more time; and with all times; for all inputs. -/
import Derived.Test.YtabchkekhpmpiaaLTWhole
set_option linter.all false
namespace Go.Proofs.Ytabchkekhpmpiaa
open Go Go.Abs

theorem lcmV_go {l : List Int} (h1 : l.length ≤ 100) (h2 : l.all okN = true) (h3 : lcmL l ≤ 1099511627776) : lcmV l = (((lcmL l : Nat) : Int), 0) := by
  rw [lcmV, if_neg (by omega), if_pos h2, lcmR_eq l 1 (by decide) (by decide) h2, show (1 : Int).natAbs = 1 from rfl, Nat.lcm_one_left, if_pos h3]
theorem all_every {l : List Task} (h : l.all okT = true) : (l.map (·.every)).all okN = true := by
  rw [List.all_eq_true]
  intro x hx
  obtain ⟨t, ht, rfl⟩ := List.mem_map.1 hx
  have := okT_iff.1 (List.all_eq_true.1 h t ht)
  simp only [okN, decide_eq_true_eq]; omega
theorem fits_as {l m : List Task} {s r : Set} (h : (fitsV l s).2.2 = 0) (hlen : m.length ≤ 16) (hok : m.all okT = true) (hev : ∀ t ∈ m, ∃ u ∈ l, t.every = u.every) (hR : Right r) (hs : r.size = s.size)
    (hd : ∀ n, 0 ≤ n → demS n m ≤ leastV r n) : (fitsV m r).2.2 = 0 ∧ (fitsV m r).1 = true := by
  obtain ⟨r0, r1, r2, fo, -⟩ := fits_rt h
  obtain ⟨q1, q2, q3, q4, q5⟩ := round_ok r0
  have hdv : lcmL (m.map (·.every)) ∣ lcmL (l.map (·.every)) := lcmL_max fun x hx => by
    obtain ⟨t, ht, rfl⟩ := List.mem_map.1 hx
    obtain ⟨u, hu, e⟩ := hev t ht
    rw [e]; exact lcmL_mem (List.mem_map_of_mem hu)
  have hle : lcmL (m.map (·.every)) ≤ lcmL (l.map (·.every)) := Nat.le_of_dvd (by omega) hdv
  have hpos := lcmL_pos (all_every hok)
  have er : roundV m = (((lcmL (m.map (·.every)) : Nat) : Int), 0) := by
    rw [roundV, if_pos (tchk_iff.2 ⟨hlen, hok⟩), lcmV_go (by rw [List.length_map]; omega) (all_every hok) (by omega)]
  have hp2 := fo.p2
  obtain ⟨k1, k2, k3, k4, k5⟩ := lcmV_ok r2
  have hR1 := hR.s1
  have hR2 := hR.s2
  have hdv2 : lcmL [(roundV m).1, r.size] ∣ lcmL [(roundV l).1, s.size] := lcmL_max fun x hx => by
    rcases List.mem_cons.1 hx with rfl | hx
    · refine Nat.dvd_trans ?_ (lcmL_mem (x := (roundV l).1) (by simp))
      rw [er, q5, Int.natAbs_natCast, Int.natAbs_natCast]; exact hdv
    · have : x = s.size := by simp at hx; omega
      rw [this]
      exact lcmL_mem (by simp)
  have hle2 := Nat.le_of_dvd (by omega) hdv2
  have hN : ([(roundV m).1, r.size] : List Int).all okN = true := by
    rw [er]
    simp only [List.all_cons, List.all_nil, okN, Bool.and_true, Bool.and_eq_true, decide_eq_true_eq]
    omega
  have el := lcmV_go (l := [(roundV m).1, r.size]) (show 2 ≤ 100 by decide) hN (by omega)
  have ef : fitsV m r = scanV m r (duesV m ((lcmV [(roundV m).1, r.size]).1 + 1)) := by
    rw [fitsV, if_neg (fun q => q (tchk_iff.2 ⟨hlen, hok⟩)), if_neg (fun q => q (check_iff.2 hR)), if_neg (fun q => by rcases q with q | q; exact q (by rw [er]); rw [er] at q; dsimp only at q; omega),
      if_neg (fun q => by rcases q with q | q; exact q (by rw [el]); rw [el] at q; dsimp only at q; omega)]
  rw [ef]
  rcases scan_spec (l := m) (s := r) (dues_sorted m ((lcmV [(roundV m).1, r.size]).1 + 1)) with ⟨e, k⟩ | ⟨b, hb, e, k1', k2'⟩
  · rw [e]; exact ⟨rfl, rfl⟩
  · exfalso
    have hbb := dues_mem hok hb
    rw [el] at hbb
    dsimp only at hbb
    rw [leastV_bound hR (by omega) (by omega)] at k1'
    have := hd b (by omega)
    dsimp only at k1'
    omega
theorem demS_sub {n : Int} (hn : 0 ≤ n) {m l : List Task} (h : m.Sublist l) (ho : l.all okT = true) : m.all okT = true ∧ demS n m ≤ demS n l := by
  induction h with
  | slnil => exact ⟨rfl, Int.le_refl _⟩
  | cons a _ ih =>
    simp only [List.all_cons, Bool.and_eq_true] at ho
    obtain ⟨i1, i2⟩ := ih ho.2
    have := demS_nn hn (l := [a]) (by simp [ho.1])
    rw [demS, demS] at this
    exact ⟨i1, by rw [demS]; omega⟩
  | cons_cons a _ ih =>
    simp only [List.all_cons, Bool.and_eq_true] at ho
    obtain ⟨i1, i2⟩ := ih ho.2
    exact ⟨by simp [ho.1, i1], by rw [demS, demS]; omega⟩
def lessT (t : Task) (a b : Int) : Task :=
  ⟨if 1 < (if t.long < a then t.long else a) then (if t.long < a then t.long else a) else 1, t.every, if t.due < (if t.every < b then t.every else b) then (if t.every < b then t.every else b) else t.due⟩
theorem lessT_ok {t : Task} {a b : Int} (h : okT t = true) : okT (lessT t a b) = true ∧ ∀ n, 0 ≤ n → dem1 (lessT t a b) n ≤ dem1 t n := by
  have ho := okT_iff.1 h
  have hL : 1 ≤ (lessT t a b).long ∧ (lessT t a b).long ≤ t.long := by
    unfold lessT; dsimp only
    repeat' split
    all_goals omega
  have hD : t.due ≤ (lessT t a b).due ∧ (lessT t a b).due ≤ t.every := by
    unfold lessT; dsimp only
    repeat' split
    all_goals omega
  have hE : (lessT t a b).every = t.every := rfl
  have h2 : okT (lessT t a b) = true := okT_iff.2 (by rw [hE]; omega)
  refine ⟨h2, fun n hn => ?_⟩
  rw [dem1_eq h hn, dem1_eq h2 hn, hE]
  have e1 := Int.ediv_le_ediv (show 0 < t.every by omega) (show n - (lessT t a b).due ≤ n - t.due by omega)
  have e2 : -1 ≤ (n - (lessT t a b).due) / t.every := by
    rw [Int.le_ediv_iff_mul_le (by omega)]; omega
  exact Int.mul_le_mul (by omega) hL.2 (by omega) (by omega)
theorem demS_set {n : Int} (hn : 0 ≤ n) {t' : Task} : ∀ {l : List Task} {i : Nat}, (∀ h : i < l.length, dem1 t' n ≤ dem1 l[i] n) → demS n (l.set i t') ≤ demS n l
  | [], _, _ => by simp
  | x :: r, 0, h => by
    have : dem1 t' n ≤ dem1 x n := h (by simp)
    rw [List.set_cons_zero, demS, demS]; omega
  | x :: r, i + 1, h => by
    have := demS_set hn (l := r) (i := i) fun hi => h (by simp; omega)
    rw [List.set_cons_succ, demS, demS]; omega
theorem set_ok {t' : Task} {l : List Task} {i : Nat} (ht : okT t' = true) (h : l.all okT = true) : (l.set i t').all okT = true := by
  rw [List.all_eq_true]
  intro x hx
  rcases List.mem_or_eq_of_mem_set hx with hx | rfl
  · exact List.all_eq_true.1 h x hx
  · exact ht
structure Less (l : List Task) (s : Set) (i : Nat) (a b : Int) : Prop where
  del : (fitsV (delU l i (i + 1)) s).2.2 = 0 ∧ (fitsV (delU l i (i + 1)) s).1 = true
  oth : (fitsV (l.set i (lessT (l.getD i Dat.d0) a b)) s).2.2 = 0 ∧ (fitsV (l.set i (lessT (l.getD i Dat.d0) a b)) s).1 = true
  all : (fitsV l (allS s.size)).2.2 = 0 ∧ (fitsV l (allS s.size)).1 = true
theorem less_all {l : List Task} {s : Set} {i : Nat} {a b : Int} (h : (fitsV l s).2.2 = 0) (hy : (fitsV l s).1 = true) (hi : i < l.length) : Less l s i a b := by
  obtain ⟨-, -, -, fo, -⟩ := fits_rt h
  obtain ⟨-, hy⟩ := fits_yes h hy
  have hs1 := fo.rt.s1
  have hs2 := fo.rt.s2
  have hlen := fo.len
  have hsub : (delU l i (i + 1)).Sublist l := by
    have : (l.take i ++ l.drop (i + 1)).Sublist (l.take i ++ l.drop i) := (List.Sublist.refl _).append (by rw [drop_cons Dat.d0 hi]; exact (List.Sublist.refl _).cons _)
    rwa [List.take_append_drop] at this
  have hti := tk_get hi fo.ok
  refine ⟨fits_as h (by rw [delU_len (by omega) (by omega)]; omega) (demS_sub (Int.le_refl 0) hsub fo.ok).1 (fun t ht => ⟨t, hsub.subset ht, rfl⟩) fo.rt rfl fun n hn => by have := (demS_sub hn hsub fo.ok).2; have := hy n hn; omega,
    fits_as h (by rw [List.length_set]; omega) (set_ok (lessT_ok hti).1 fo.ok) (fun t ht => ?_) fo.rt rfl fun n hn => ?_,
    fits_as h fo.len fo.ok (fun t ht => ⟨t, ht, rfl⟩) (allS_right hs1 hs2) rfl fun n hn => ?_⟩
  · rcases List.mem_or_eq_of_mem_set ht with ht | rfl
    · exact ⟨t, ht, rfl⟩
    · refine ⟨l.getD i Dat.d0, ?_, rfl⟩
      rw [List.getD_eq_getElem?_getD, List.getElem?_eq_getElem hi]
      exact List.getElem_mem hi
  · have := demS_set hn (t' := lessT (l.getD i Dat.d0) a b) (l := l) (i := i) fun hi => by
      have := (lessT_ok (a := a) (b := b) hti).2 n hn
      rw [List.getD_eq_getElem?_getD, List.getElem?_eq_getElem hi] at this
      rw [List.getD_eq_getElem?_getD, List.getElem?_eq_getElem hi]
      exact this
    have := hy n hn; omega
  · rw [allS_least hs1 hs2 hn]
    have := hy n hn
    have := (leastV_le fo.rt hn).2
    omega
theorem set_get {l : List Task} {i j : Nat} {t : Task} (hj : j < l.length) : (l.set i t).getD j Dat.d0 = if j = i then t else l.getD j Dat.d0 := by
  rw [List.getD_eq_getElem?_getD, List.getElem?_set]
  by_cases h : i = j
  · subst h; rw [if_pos rfl, if_pos hj, if_pos rfl]; rfl
  · rw [if_neg h, if_neg (fun q => h q.symm), List.getD_eq_getElem?_getD]
theorem set_val {l : List Task} {i : Nat} {a b : Int} (f : (PUnit → Nat) → List AV) (hf : ∀ j, j < l.length → (Dat.dec (f fun _ => j) : Task) = if j = i then lessT (l.getD i Dat.d0) a b else l.getD j Dat.d0) :
    slV (α := Task) (.sl 3 (fun _ => l.length) f) = l.set i (lessT (l.getD i Dat.d0) a b) := by
  refine lst_eq (d := Dat.d0) (by rw [List.length_set]) fun j hj => ?_
  rw [hf j hj, set_get hj]
noncomputable def cTLe : FuncId → Con := fun f => match f with
  | 36 => pureCon (detPC fits_D)
  | 35 => pureCon (detPC tlives_D)
  | 19 => pureCon clTask_C
  | 18 => dlTask_K
  | _ => fun _ _ _ => Bad 1001
theorem cTLe_ok : ConOk Try.prog cTLe := fun f A H K h => by
  unfold cTLe at h
  split at h
  · exact ⟨⟨Try.f36, Try.func36, by kernel_rfl, by kernel_rfl⟩, pureCon_ok fits_ok h⟩
  · exact ⟨⟨Try.f35, Try.func35, by kernel_rfl, by kernel_rfl⟩, pureCon_ok tlives_ok h⟩
  · exact ⟨⟨Try.f19, Try.func19, by kernel_rfl, by kernel_rfl⟩, pureCon_ok clTask_ok h⟩
  · exact ⟨⟨Try.f18, Try.func18, by kernel_rfl, by kernel_rfl⟩, dlTask_ok h⟩
  · cases h
def dTLe : FuncId → Option Dt := fun f => match f with
  | 19 => some (.n clTaskN_N)
  | _ => none
theorem dTLe_ok : DetOk Try.prog dTLe := fun f d h => by
  unfold dTLe at h
  split at h
  · cases h; exact ⟨⟨Try.f19, Try.func19, by kernel_rfl, by kernel_rfl⟩, clTaskN_okN⟩
  · cases h
set_option maxRecDepth 100000 in
set_option maxHeartbeats 4000000 in
theorem tless_vc (l : (List Task)) (s : Set) (k : Int) (long : Int) (due : Int) (fit_l : Siz.fit l) (fit_s : Siz.fit s) (fit_k : Siz.fit k) (fit_long : Siz.fit long) (fit_due : Siz.fit due) (hB : Siz.bulk l + Siz.bulk s + Siz.bulk k + Siz.bulk long + Siz.bulk due ≤ 1048576) : FnOk Try.prog 15 [Leaf.av fun _ => l, .agg (Dat.enc fun _ => s), .i .i64 fun _ => k, .i .i64 fun _ => long, .i .i64 fun _ => due] [] (outA (.bc true) []) := by
  refine fn_ok envOk zl cTLe_ok (draws_ok envOk zl dTLe_ok mixed) (keep := [0, 1, 2, 3, 4, 6, 10, 11, 13, 14, 15, 17, 18, 19, 21, 22, 23, 25, 52, 118]) Try.func15 rfl ?_
  have fin := @fin_b
  have finc := @fin_t
  have hl : l.length ≤ 1048576 ∧ s.spans.length ≤ 1048576 := by
    have h2 := bulk_len Span.one_le s.spans
    have h1 := bulk_len (α := Task) Task.one_le l
    simp only [Siz.bulk] at hB h1 h2
    omega
  generalize outA (.bc true) [] = K at fin finc
  cbv
  repeat' first | (show Stp _; exfalso; first | omega | (exact h ‹_›) | (exact absurd ‹_› h) | (exact Bool.false_ne_true (h.symm.trans (show _ = true by assumption)))) | (refine Stp.mk ?_; cbv) | (refine Gen.mk fun r hr => ?_; (try simp only [Dat.ok, Dat.dec, Leaf.ok, Leaf.val, Span.eta, Set.eta, Task.eta, Done.eta, Late.eta, val_sl, val_nil] at hr); cbv) | exact trivial | rfl | refine Both.mk ?_ ?_ | (refine Imp.mk fun h => ?_; (try dsimp only at h); (try simp only [nc, Int.toNat_natCast, Bool.not_eq_true', Bool.not_eq_false', decide_eq_true_eq, decide_eq_false_iff_not, beq_iff_eq, beq_eq_false_iff_ne, ba_inj, bne_iff_ne, ne_eq, Bool.and_eq_true, Bool.or_eq_true, Bool.and_eq_false_iff, Bool.or_eq_false_iff, Int.not_le, Int.not_lt, Nat.not_le, Nat.not_lt] at h); (try simp only [nc] at h)) | refine Ob.mk ?_ ?_ | refine Chk.mk (by kernel_rfl) ?_ | refine Eq'.mk ?_ | (refine AllN.mk fun i hi => ?_; cbv) | (refine AllS.mk fun r hr => ?_; (try simp only [Dat.ok, Dat.dec, Leaf.ok, Leaf.val, Span.eta, Set.eta, Task.eta, Done.eta, Late.eta, val_sl] at hr); cbv)
  all_goals ((try dsimp only at *); (try simp only [nc, Int.toNat_natCast, Bool.not_eq_true', Bool.not_eq_false', decide_eq_true_eq, decide_eq_false_iff_not, beq_iff_eq, beq_eq_false_iff_ne, ba_inj, bne_iff_ne, ne_eq, Bool.and_eq_true, Bool.or_eq_true, Bool.and_eq_false_iff, Bool.or_eq_false_iff, Int.not_le, Int.not_lt, Nat.not_le, Nat.not_lt] at *); (try simp only [nc] at *))
  all_goals try simp only [Dat.dec, Leaf.val, Span.eta, Set.eta, Task.eta, Done.eta, Late.eta, val_sl] at *
  all_goals try (have hq2 : _ = r := hr.symm; clear hr; subst hq2)
  all_goals try (rename (_ = l) => hq3; have hq4 := hq3.symm; clear hq3; subst hq4)
  all_goals try (rename (_ = l) => hq3; have hq4 := hq3.symm; clear hq3; subst hq4)
  all_goals first
    | exact finc
    | exact ⟨⟨rfl, fun i _ => Dat.hok _⟩, show _ ≤ _ by omega⟩
    | exact ⟨⟨rfl, fun i _ => Dat.hok _⟩, ⟨trivial, rfl, fun i _ => Dat.hok _⟩, show _ ≤ _ by omega, show _ ≤ _ by omega⟩
    | skip
  all_goals have hy : (fitsV l s).1 = true := by assumption
  all_goals have hLe := less_all (a := long) (b := due) (by assumption : (fitsV l s).2.2 = 0) hy (show k.toNat < l.length by omega)
  all_goals have hk : (k + 1).toNat = k.toNat + 1 := (by omega)
  all_goals have hN : dlTask_N l k (k + 1) = (delU l k.toNat (k.toNat + 1)).length := (by rw [← hk]; rfl)
  all_goals have hF : dlTask_F l k (k + 1) = delU l k.toNat (k.toNat + 1) := (by rw [← hk]; rfl)
  all_goals have hdl : (delU l k.toNat (k.toNat + 1)).length ≤ 1048576 := (by rw [delU_len (by omega) (by omega)]; omega)
  all_goals try simp only [hN, hF, val_sl] at *
  all_goals first
    | omega
    | exact Nat.le_refl _
    | exact ⟨by omega, by omega⟩
    | (unfold InR; omega)
    | exact ⟨rfl, trivial, fun i _ => Dat.hok _, by omega, by omega, by omega, by omega, by omega⟩
    | exact ⟨⟨rfl, fun i _ => Dat.hok _⟩, ⟨trivial, rfl, fun i _ => Dat.hok _⟩, show _ ≤ _ by omega, show _ ≤ _ by omega⟩
    | exact ⟨⟨rfl, fun i _ => Dat.hok _⟩, ⟨trivial, rfl, fun i _ => ⟨trivial, trivial⟩⟩, show _ ≤ _ by omega, show (1 : Nat) ≤ _ by decide⟩
    | exact absurd hLe.del.1 (by assumption)
    | (exfalso; have a := hLe.del.2; simp_all; done)
    | exact absurd hLe.all.1 (by assumption)
    | exact fin hLe.all.2
    | (simp only [hLe.del.1, hLe.del.2] at *; exfalso; first | exact h trivial | exact Bool.noConfusion h)
    | (rw [set_val (i := k.toNat) (a := long) (b := due)]
       · exact ⟨⟨rfl, fun i _ => ⟨trivial, trivial, trivial⟩⟩, ⟨trivial, rfl, fun i _ => Dat.hok _⟩, show (l.set _ _).length ≤ _ by rw [List.length_set]; omega, show _ ≤ _ by omega⟩
       · intro j hj
         by_cases hjk : j = k.toNat
         · simp only [hjk, decide_true, if_true]
           rfl
         · simp only [hjk, decide_false, if_false]
           rfl)
    | (exfalso
       rename ¬ (fitsV (slV _) s).2.2 = 0 => hbad
       rw [set_val (i := k.toNat) (a := long) (b := due)] at hbad
       · exact hbad hLe.oth.1
       · intro j hj
         by_cases hjk : j = k.toNat
         · simp only [hjk, decide_true, if_true]
           rfl
         · simp only [hjk, decide_false, if_false]
           rfl)
    | (exfalso
       rename (fitsV (slV _) s).1 = false => hbad
       rw [set_val (i := k.toNat) (a := long) (b := due), hLe.oth.2] at hbad
       · exact Bool.noConfusion hbad
       · intro j hj
         by_cases hjk : j = k.toNat
         · simp only [hjk, decide_true, if_true]
           rfl
         · simp only [hjk, decide_false, if_false]
           rfl)
    | fail
section
open Go.ChangeShapes Go.WideShapes Go.ChangeAt Go.RowKit Go.Joins Go.Deep
set_option linter.unusedVariables false
theorem tless_own : ownKnob Try.prog.godebug = none := by kernel_rfl
theorem tless_laidOut : laidOutB Try.prog = true := by kernel_rfl
theorem tless_readOk {ts : Array TypeId} (h : ts.toList.all (fun t => Try.prog.readableRec t && decide (t < Try.prog.types.size)) = true) : ∀ t ∈ ts.toList, Try.prog.readableRec t = true ∧ t < Try.prog.types.size := fun t ht => by
  have := List.all_eq_true.1 h t ht
  simpa using this
mutual
theorem tless_bD {H : Type} : ∀ d : DataW H, Rows.uptoBulk d = bulkD d
  | .lit l => by cases l <;> simp [Rows.uptoBulk, bulkD]
  | .nil => by simp [Rows.uptoBulk, bulkD]
  | .ptr d => by simp [Rows.uptoBulk, bulkD, tless_bD d]
  | .slice a b => by simp [Rows.uptoBulk, bulkD, tless_bL a, tless_bL b]
  | .agg a => by simp [Rows.uptoBulk, bulkD, tless_bL a]
  | .iface _ d => by simp [Rows.uptoBulk, bulkD, tless_bD d]
  | .map e => by simp [Rows.uptoBulk, bulkD, tless_bE e]
  | .held _ => by simp [Rows.uptoBulk, bulkD]
theorem tless_bL {H : Type} : ∀ d : List (DataW H), Rows.uptoBulkAll d = bulkL d
  | [] => by simp [Rows.uptoBulkAll, bulkL]
  | d :: r => by simp [Rows.uptoBulkAll, bulkL, tless_bD d, tless_bL r]
theorem tless_bE {H : Type} : ∀ d : List (Lit × DataW H), Rows.uptoBulkEntries d = bulkE d
  | [] => by simp [Rows.uptoBulkEntries, bulkE]
  | d :: r => by simp [Rows.uptoBulkEntries, bulkE, tless_bX d, tless_bE r]
theorem tless_bX {H : Type} : ∀ d : Lit × DataW H, Rows.uptoBulkEntry d = bulkX d
  | (l, d) => by cases l <;> simp [Rows.uptoBulkEntry, bulkX, tless_bD d]
end
set_option maxRecDepth 100000 in
theorem tless_lifted (os : Os) (started : os.Started) (H : Type) (enc : TypeId × Value → H) (F : Stop.Interp) :
    ReturnsInHanded {} Try.checked os 15 .any ((Rows.OpenSpec.upto Rows.taskLessSpec).pre6 enc Try.prog Try.f15 Rows.taskLessUptoRow.domain false) (((Rows.OpenSpec.upto Rows.taskLessSpec).at F).post enc Try.prog Try.f15 false true false false) := by
  refine returnsInHanded_of_cond (C := Try.checked) (s := Rows.OpenSpec.upto Rows.taskLessSpec) (k := Rows.uptoSmall) rfl tless_own started (by kernel_rfl) Try.func15
    (OpenSpec.witness (enc := enc) (C := Try.checked) (s := Rows.OpenSpec.upto Rows.taskLessSpec) (k := Rows.uptoSmall) rfl false ⟨#[], #[.slice none 0 0, .agg #[.int .i64 0, .slice none 0 0], .int .i64 0, .int .i64 0, .int .i64 0], []⟩ 8 (by kernel_rfl) (by kernel_rfl) (by kernel_rfl)
      (x := ([.nil, .agg [.lit (.int .i64 0), .nil], .lit (.int .i64 0), .lit (.int .i64 0), .lit (.int .i64 0)], [], [])) (by kernel_rfl) rfl (by kernel_rfl)) ?_
  intro W base args ds gs before hval0 hW _ hk _
  show Calls Try.prog 15 args W fun e W' => ∃ v, e = .returned v ∧ Rows.taskLessSpec.post enc Try.prog Try.f15 false true false false W args v W'
  have hval : ∀ (j : Nat) t v, Try.f15.params[j]? = some t → args[j]? = some v → Value.okWide Try.prog W .any base t v := hval0
  have hW' := hW
  have hlt := hW.lt
  obtain ⟨p, q, hA0, hV, rfl, hfz, hnd⟩ := hW
  have hA : DataW.TrodAll enc Try.prog W 0 (fun _ => true) true Try.f15.params.toList args.toList ds p := hA0
  have hA1 := hA
  rw [Try.params15] at hA hval
  obtain ⟨v0, vs0, d0, ds0, p0, q0, hargs, rfl, rfl, h0, r0⟩ := trodAll_cons hA
  obtain ⟨v1, vs1, d1, ds1, p1, q1, rfl, rfl, rfl, h1, r1⟩ := trodAll_cons r0
  obtain ⟨v2, vs2, d2, ds2, p2, q2, rfl, rfl, rfl, h2, r2⟩ := trodAll_cons r1
  obtain ⟨v3, vs3, d3, ds3, p3, q3, rfl, rfl, rfl, h3, r3⟩ := trodAll_cons r2
  obtain ⟨v4, vs4, d4, ds4, p4, q4, rfl, rfl, rfl, h4, r4⟩ := trodAll_cons r3
  obtain ⟨rfl, rfl, rfl⟩ := trodAll_nil r4
  obtain rfl : args = #[v0, v1, v2, v3, v4] := by cases args; simp_all
  obtain ⟨rfl, rfl⟩ := trodVars_none hV
  obtain ⟨z0, z'0, z''0, rfl⟩ := okWide_slice Try.underlying22 (hval 0 22 v0 rfl rfl)
  obtain ⟨y0, u0, b0, e0⟩ := arg_leaf (α := (List Task)) (opn_slice Try.underlying22 (by kernel_rfl) (by decide) opn_Task) rfl h0
  obtain ⟨cs1, rfl, _⟩ := okWide_struct Try.underlying25 (hval 1 25 v1 rfl rfl)
  obtain ⟨y1, u1, b1, e1⟩ := arg_agg (α := Set) opn_Set h1
  obtain ⟨z2, rfl⟩ := okWide_int Try.underlying3 (hval 2 3 v2 rfl rfl)
  obtain ⟨y2, u2, b2, e2⟩ := arg_leaf (α := Int) (opn_int Try.underlying3) rfl h2
  obtain ⟨z3, rfl⟩ := okWide_int Try.underlying3 (hval 3 3 v3 rfl rfl)
  obtain ⟨y3, u3, b3, e3⟩ := arg_leaf (α := Int) (opn_int Try.underlying3) rfl h3
  obtain ⟨z4, rfl⟩ := okWide_int Try.underlying3 (hval 4 3 v4 rfl rfl)
  obtain ⟨y4, u4, b4, e4⟩ := arg_leaf (α := Int) (opn_int Try.underlying3) rfl h4
  have hB : Siz.bulk y0 + Siz.bulk y1 + Siz.bulk y2 + Siz.bulk y3 + Siz.bulk y4 ≤ 1048576 := by
    have h := of_decide_eq_true hk
    rw [tless_bL] at h
    simp only [List.append_nil, bulkL] at h
    omega
  have hR := repL_cons (M := fun _ => False) (β := fun _ => none) (cp := fun _ => 0) (.c e0) (repL_cons (M := fun _ => False) (β := fun _ => none) (cp := fun _ => 0) (.c e1) (repL_cons (M := fun _ => False) (β := fun _ => none) (cp := fun _ => 0) (.c e2) (repL_cons (M := fun _ => False) (β := fun _ => none) (cp := fun _ => 0) (.c e3) (repL_cons (M := fun _ => False) (β := fun _ => none) (cp := fun _ => 0) (.c e4) (repL_nil)))))
  refine (law_callsA (tless_vc y0 y1 y2 y3 y4 u0 u1 u2 u3 u4 hB) hR).mono fun e W' ⟨he, bel⟩ => ?_
  subst he
  exact ⟨_, rfl, _, _, _, [], _, [], hW', trodAll_mk1 (shut_bool Try.underlying4 _), trodAll_below tless_laidOut bel (tless_readOk (by kernel_rfl)) (fun x hx => hlt x (List.mem_append_left _ hx)) hA1, rfl, bel.frame _, fun h => by cases h⟩
theorem TaskLess_proved : Rows.TaskLessUptoSaid :=
  OpenClaim.holds_of_cond 15 Try.f15 rfl rfl rfl rfl rfl rfl rfl ⟨rfl, rfl, rfl, rfl, rfl⟩ rfl rfl rfl rfl rfl (by kernel_rfl) Try.func15 (by kernel_rfl)
    (of_decide_eq_true (by kernel_rfl)) (by unfold Func.isWrapper; first | (rw [if_pos (by decide +kernel)]; kernel_rfl) | (rw [if_neg (by decide +kernel)]; exact ⟨rfl, rfl⟩))
    (fun os started H enc _ F => tless_lifted os started H enc F)
end

end Go.Proofs.Ytabchkekhpmpiaa
