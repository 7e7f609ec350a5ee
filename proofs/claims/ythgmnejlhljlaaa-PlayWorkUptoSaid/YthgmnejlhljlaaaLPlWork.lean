/- All times of the set are worked at, or idle; for all inputs. -/
import Derived.Test.YthgmnejlhljlaaaPlayL
import Derived.Test.YthgmnejlhljlaaaPlayW
import Derived.Test.YthgmnejlhljlaaaLPlOn
set_option linter.all false
namespace Go.Proofs.Ythgmnejlhljlaaa
open Go Go.Abs

noncomputable def cPW : FuncId → Con := fun f => match f with
  | 9 => pureCon playC_C
  | 10 => pureCon (detPC plLives_D)
  | 12 => pureCon (detPC count_D)
  | _ => fun _ _ _ => Bad 1001
theorem cPW_ok : ConOk Try.prog cPW := fun f A H K h => by
  unfold cPW at h
  split at h
  · exact ⟨⟨Try.f9, Try.func9, by kernel_rfl, by kernel_rfl⟩, pureCon_ok playC_ok h⟩
  · exact ⟨⟨Try.f10, Try.func10, by kernel_rfl, by kernel_rfl⟩, pureCon_ok plLives_ok h⟩
  · exact ⟨⟨Try.f12, Try.func12, by kernel_rfl, by kernel_rfl⟩, pureCon_ok count_ok h⟩
  · cases h
def dPW : FuncId → Option Dt := fun f => match f with
  | 12 => some (.c count_D)
  | _ => none
theorem dPW_ok : DetOk Try.prog dPW := fun f d h => by
  unfold dPW at h
  split at h
  · cases h; exact ⟨⟨Try.f12, Try.func12, by kernel_rfl, by kernel_rfl⟩, count_ok⟩
  · cases h
theorem countE {s : Set} (hR : Right s) {a b : Int} (h0 : 0 ≤ a) (hab : a ≤ b) (hb : b ≤ 1099511627776) : countV s a b = (uptoV s b - uptoV s a, 0) := count_of hR h0 hab hb
theorem play_len2 {l : List Task} {s : Set} {first : List Int} {policy u : Int} (h : (playJ l s first policy u).2.2 = 0) : (playJ l s first policy u).1.length ≤ 20000 := by
  obtain ⟨_, _, _, _, a5, _, e1⟩ := playJ_ok h
  rw [e1]
  dsimp only
  have := runQ_len (fx := decide (policy = 2)) (s := s) (n := u.toNat) (t := 0) (x := ⟨sortS (jobsL u 0 l first), [], [], 0⟩)
  exact Nat.le_trans this (by show 0 + u.toNat ≤ 20000; omega)
structure WkX (l : List Task) (d : List Done) where
  p : Nat
  nx : List Int
  w : Int
  hp : p ≤ d.length
  hl : nx.length = l.length
  hn : ∀ z : Int, 0 ≤ z → z < l.length → nx.getD z.toNat Dat.d0 = ((ofD z (d.take p)).length : Nat)
  hw : w = sumD l (d.take p)
  hw0 : 0 ≤ w
  hw1 : w ≤ 10000 * p
def WkX.next {l : List Task} {first : List Int} {s : Set} {u : Int} {d : List Done} (x : WkX l d) (hpd : x.p < d.length) (a1 : l.all okT = true) (D : DoneOk l first s u d x.p) : WkX l d where
  p := x.p + 1
  nx := x.nx.set (d.getD x.p Dat.d0).task.toNat (x.nx.getD (d.getD x.p Dat.d0).task.toNat Dat.d0 + 1)
  w := x.w + (l.getD (d.getD x.p Dat.d0).task.toNat Dat.d0).long
  hp := by omega
  hl := by simpa using x.hl
  hn := fun z z0 z1 => by
    have t0 := D.t0
    have t1 := D.t1
    have hlx := x.hl
    have hnx := x.hn (d.getD x.p Dat.d0).task t0 t1
    rw [gd_set _ _ _ _ _ (by omega), take_snoc Dat.d0 hpd]
    have e3 : ofD z (d.take x.p ++ [d.getD x.p Dat.d0]) = ofD z (d.take x.p) ++ ofD z [d.getD x.p Dat.d0] := List.filter_append ..
    rw [e3]
    by_cases h8 : z = (d.getD x.p Dat.d0).task
    · have e4 : ofD z [d.getD x.p Dat.d0] = [d.getD x.p Dat.d0] := by unfold ofD; rw [List.filter_cons, if_pos (by simpa using h8.symm)]; rfl
      rw [e4, h8, decide_eq_true rfl, cond_true, hnx]
      simp
    · have e4 : ofD z [d.getD x.p Dat.d0] = [] := by
        unfold ofD
        rw [List.filter_cons, if_neg (by simpa using fun h => h8 h.symm)]
        rfl
      rw [e4, decide_eq_false (show ¬ z.toNat = (d.getD x.p Dat.d0).task.toNat by omega), cond_false, List.append_nil]
      exact x.hn z z0 z1
  hw := by
    have e5 : sumD l [d.getD x.p Dat.d0] = (l.getD (d.getD x.p Dat.d0).task.toNat Dat.d0).long := Int.add_zero _
    rw [take_snoc Dat.d0 hpd, sumD_app, e5, ← x.hw]
  hw0 := by
    have t0 := D.t0
    have t1 := D.t1
    have hok := okT_iff.1 (tk_get (show (d.getD x.p Dat.d0).task.toNat < l.length by omega) a1)
    have := x.hw0
    omega
  hw1 := by
    have t0 := D.t0
    have t1 := D.t1
    have hok := okT_iff.1 (tk_get (show (d.getD x.p Dat.d0).task.toNat < l.length by omega) a1)
    have := x.hw1
    omega
set_option maxRecDepth 100000 in
set_option maxHeartbeats 4000000 in
theorem playwork_vc (l : (List Task)) (s : Set) (first : (List Int)) (policy : Int) (u : Int) (fit_l : Siz.fit l) (fit_s : Siz.fit s) (fit_first : Siz.fit first) (fit_policy : Siz.fit policy) (fit_u : Siz.fit u) (hB : Siz.bulk l + Siz.bulk s + Siz.bulk first + Siz.bulk policy + Siz.bulk u ≤ 1048576) : FnOk Try.prog 4 [Leaf.av fun _ => l, .agg (Dat.enc fun _ => s), Leaf.av fun _ => first, .i .i64 fun _ => policy, .i .i64 fun _ => u] [] (outA (.bc true) []) := by
  refine fn_ok envOk zl cPW_ok (draws_ok envOk zl dPW_ok mixed) (keep := [0, 1, 2, 3, 4, 6, 10, 11, 12, 13, 14, 15, 16, 17, 18, 19, 20, 21, 22, 38, 54, 55, 56, 57, 95, 140]) Try.func4 rfl ?_
  have fin := @fin_b
  have finc := @fin_t
  have hpre : l.length ≤ 9223372036854775807 ∧ s.spans.length ≤ 9223372036854775807 ∧ first.length ≤ 9223372036854775807 := by
    have h1 := bulk_len (α := Task) Task.one_le l
    have h2 := bulk_len Span.one_le s.spans
    have h3 := bulk_len (α := Int) (fun _ => Nat.le_refl _) first
    simp only [Siz.bulk] at hB h1 h2 h3
    omega
  generalize outA (.bc true) [] = K at fin finc
  cbv
  repeat' first | (show Stp _; exfalso; first | omega | (exact h ‹_›) | (exact absurd ‹_› h) | (exact Bool.false_ne_true (h.symm.trans (show _ = true by assumption)))) | (refine Stp.mk ?_; cbv) | (refine Gen.mk fun r hr => ?_; (try simp only [Dat.ok, Dat.dec, Leaf.ok, Leaf.val, Span.eta, Set.eta, Task.eta, Done.eta, job.eta, Late.eta, val_sl, val_nil] at hr); cbv) | exact trivial | rfl | refine Both.mk ?_ ?_ | (refine Imp.mk fun h => ?_; (try dsimp only at h); (try simp only [nc, Int.toNat_natCast, Bool.not_eq_true', Bool.not_eq_false', decide_eq_true_eq, decide_eq_false_iff_not, beq_iff_eq, beq_eq_false_iff_ne, ba_inj, bne_iff_ne, ne_eq, Bool.and_eq_true, Bool.or_eq_true, Bool.and_eq_false_iff, Bool.or_eq_false_iff, Int.not_le, Int.not_lt, Nat.not_le, Nat.not_lt] at h); (try simp only [nc] at h)) | refine Ob.mk ?_ ?_ | refine Chk.mk (by kernel_rfl) ?_ | refine Eq'.mk ?_ | (refine AllN.mk fun i hi => ?_; cbv) | (refine AllC.mk fun c hc hcm => ?_; (try dsimp only at hc); cbv) | (refine AllS.mk fun r hr => ?_; (try simp only [Dat.ok, Dat.dec, Leaf.ok, Leaf.val, Span.eta, Set.eta, Task.eta, Done.eta, job.eta, Late.eta, val_sl] at hr); cbv)
  all_goals ((try dsimp only at *); (try simp only [nc, Int.toNat_natCast, Bool.not_eq_true', Bool.not_eq_false', decide_eq_true_eq, decide_eq_false_iff_not, beq_iff_eq, beq_eq_false_iff_ne, ba_inj, bne_iff_ne, ne_eq, Bool.and_eq_true, Bool.or_eq_true, Bool.and_eq_false_iff, Bool.or_eq_false_iff, Int.not_le, Int.not_lt, Nat.not_le, Nat.not_lt] at *); (try simp only [nc] at *))
  all_goals try simp only [Dat.dec, Leaf.val, Span.eta, Set.eta, Task.eta, Done.eta, job.eta, Late.eta, val_sl] at *
  all_goals try (first
    | exact finc
    | exact Nat.le_refl _
    | omega
    | exact ⟨by omega, by omega⟩
    | exact ⟨by omega, by omega, by omega⟩
    | exact ⟨⟨rfl, fun i _ => Dat.hok _⟩, ⟨trivial, rfl, fun i _ => Dat.hok _⟩, ⟨rfl, fun i _ => Dat.hok _⟩, hpre⟩
    | exact ⟨⟨trivial, rfl, fun i _ => Dat.hok _⟩, hpre.2.1⟩)
  all_goals repeat (rename (_ = playJ _ _ _ _ _) => hq3; have hq4 := hq3.symm; clear hq3; subst hq4)
  all_goals try (
    refine fin ?_
    rw [play_err (by assumption)]
    done)
  all_goals try (
    refine fin ?_
    rw [play_err (by assumption)]
    rfl
    done)
  all_goals have hE : (playJ l s first policy u).2.2 = 0 := by assumption
  all_goals have hPL := play_len2 hE
  all_goals obtain ⟨hR, a5, a1, a0, f1, f2, hD, hS, hI⟩ := play_work hE
  all_goals try (exact ⟨by omega, by omega, by (try rw [nc]); omega, by omega⟩)
  all_goals have ec := countE hR (Int.le_refl 0) a5.1 (by omega)
  all_goals rw [uptoW hR, Int.sub_zero] at ec
  simp only [ec]
  revert hD hS hI hPL
  generalize (playJ l s first policy u).1 = d
  generalize (playJ l s first policy u).2.1 = idle
  intro hPL hD hS hI
  have huB := (upto_le hR (Int.le_refl 0) a5.1).2
  rw [uptoW hR] at huB
  refine LoopVC.frame [10, 16, 18, 19, 20, 21, 22, 56, 57, 95, 140] (WkX l d) (fun x => [(56, .i .i64 fun _ => x.p), (16, .i .i64 fun _ => x.w)]) (fun x => [(2, vecO 3 fun _ => x.nx)]) [] (fun x => d.length - x.p)
    ⟨0, List.replicate l.length 0, 0, Nat.zero_le _, by simp, fun z h0 h1 => by simp [List.getD_eq_getElem?_getD, show z.toNat < l.length by omega, ofD], rfl, Int.le_refl _, by simp⟩ rfl (fun _ => rfl) ?_ ?_ fun ⟨p, nx, w, hp, hl, hn, hw, hw0, hw1⟩ => ?_
  · cbv
    repeat' first | (refine Stp.mk ?_; cbv) | (refine Gen.mk fun r hr => ?_; (try simp only [Dat.ok, Dat.dec, Leaf.ok, Leaf.val, Span.eta, Set.eta, Task.eta, Done.eta, job.eta, Late.eta, val_sl, val_nil] at hr); cbv) | exact trivial | rfl | refine Both.mk ?_ ?_ | (refine Imp.mk fun h => ?_; (try dsimp only at h); (try simp only [nc, Int.toNat_natCast, Bool.not_eq_true', Bool.not_eq_false', decide_eq_true_eq, decide_eq_false_iff_not, beq_iff_eq, beq_eq_false_iff_ne, ba_inj, bne_iff_ne, ne_eq, Bool.and_eq_true, Bool.or_eq_true, Bool.and_eq_false_iff, Bool.or_eq_false_iff, Int.not_le, Int.not_lt, Nat.not_le, Nat.not_lt] at h); (try simp only [nc] at h)) | refine Ob.mk ?_ ?_ | refine Chk.mk (by kernel_rfl) ?_ | refine Eq'.mk ?_ | (refine AllN.mk fun i hi => ?_; cbv) | (refine AllC.mk fun c hc hcm => ?_; (try dsimp only at hc); cbv) | (refine AllS.mk fun r hr => ?_; (try simp only [Dat.ok, Dat.dec, Leaf.ok, Leaf.val, Span.eta, Set.eta, Task.eta, Done.eta, job.eta, Late.eta, val_sl] at hr); cbv)
  · cbv
    repeat' first | (refine Stp.mk ?_; cbv) | (refine Gen.mk fun r hr => ?_; (try simp only [Dat.ok, Dat.dec, Leaf.ok, Leaf.val, Span.eta, Set.eta, Task.eta, Done.eta, job.eta, Late.eta, val_sl, val_nil] at hr); cbv) | exact trivial | rfl | refine Both.mk ?_ ?_ | (refine Imp.mk fun h => ?_; (try dsimp only at h); (try simp only [nc, Int.toNat_natCast, Bool.not_eq_true', Bool.not_eq_false', decide_eq_true_eq, decide_eq_false_iff_not, beq_iff_eq, beq_eq_false_iff_ne, ba_inj, bne_iff_ne, ne_eq, Bool.and_eq_true, Bool.or_eq_true, Bool.and_eq_false_iff, Bool.or_eq_false_iff, Int.not_le, Int.not_lt, Nat.not_le, Nat.not_lt] at h); (try simp only [nc] at h)) | refine Ob.mk ?_ ?_ | refine Chk.mk (by kernel_rfl) ?_ | refine Eq'.mk ?_ | (refine AllN.mk fun i hi => ?_; cbv) | (refine AllC.mk fun c hc hcm => ?_; (try dsimp only at hc); cbv) | (refine AllS.mk fun r hr => ?_; (try simp only [Dat.ok, Dat.dec, Leaf.ok, Leaf.val, Span.eta, Set.eta, Task.eta, Done.eta, job.eta, Late.eta, val_sl] at hr); cbv)
    all_goals ((try dsimp only at *); (try simp only [nc, Int.toNat_natCast, Bool.not_eq_true', Bool.not_eq_false', decide_eq_true_eq, decide_eq_false_iff_not, beq_iff_eq, beq_eq_false_iff_ne, ba_inj, bne_iff_ne, ne_eq, Bool.and_eq_true, Bool.or_eq_true, Bool.and_eq_false_iff, Bool.or_eq_false_iff, Int.not_le, Int.not_lt, Nat.not_le, Nat.not_lt] at *); (try simp only [nc] at *))
    all_goals first
      | (simp; done)
      | (simp [List.getD_eq_getElem?_getD, *]; done)
      | fail
  cbv
  repeat' first | (show Stp _; exfalso; first | omega | (exact h ‹_›) | (exact absurd ‹_› h) | (exact Bool.false_ne_true (h.symm.trans (show _ = true by assumption)))) | (refine Stp.mk ?_; cbv) | (refine Gen.mk fun r hr => ?_; (try simp only [Dat.ok, Dat.dec, Leaf.ok, Leaf.val, Span.eta, Set.eta, Task.eta, Done.eta, job.eta, Late.eta, val_sl, val_nil] at hr); cbv) | exact trivial | rfl | refine Both.mk ?_ ?_ | (refine Imp.mk fun h => ?_; (try dsimp only at h); (try simp only [nc, Int.toNat_natCast, Bool.not_eq_true', Bool.not_eq_false', decide_eq_true_eq, decide_eq_false_iff_not, beq_iff_eq, beq_eq_false_iff_ne, ba_inj, bne_iff_ne, ne_eq, Bool.and_eq_true, Bool.or_eq_true, Bool.and_eq_false_iff, Bool.or_eq_false_iff, Int.not_le, Int.not_lt, Nat.not_le, Nat.not_lt] at h); (try simp only [nc] at h)) | refine Ob.mk ?_ ?_ | refine Chk.mk (by kernel_rfl) ?_ | refine Eq'.mk ?_ | (refine AllN.mk fun i hi => ?_; cbv) | (refine AllC.mk fun c hc hcm => ?_; (try dsimp only at hc); cbv) | (refine AllS.mk fun r hr => ?_; (try simp only [Dat.ok, Dat.dec, Leaf.ok, Leaf.val, Span.eta, Set.eta, Task.eta, Done.eta, job.eta, Late.eta, val_sl] at hr); cbv)
  all_goals ((try dsimp only at *); (try simp only [nc, Int.toNat_natCast, Bool.not_eq_true', Bool.not_eq_false', decide_eq_true_eq, decide_eq_false_iff_not, beq_iff_eq, beq_eq_false_iff_ne, ba_inj, bne_iff_ne, ne_eq, Bool.and_eq_true, Bool.or_eq_true, Bool.and_eq_false_iff, Bool.or_eq_false_iff, Int.not_le, Int.not_lt, Nat.not_le, Nat.not_lt] at *); (try simp only [nc] at *))
  all_goals try rw [nc] at *
  all_goals try simp only [Dat.dec, Leaf.val, Span.eta, Set.eta, Task.eta, Done.eta, job.eta, Late.eta, val_sl] at *
  all_goals try (exact ⟨by omega, by omega⟩)
  all_goals try omega
  all_goals try (
    have hpd : p < d.length := by omega
    obtain ⟨t0, t1, jb, inc, cm, c0, c1, c2, lg⟩ := hD p hpd
    have hok := okT_iff.1 (tk_get (show (d.getD p Dat.d0).task.toNat < l.length by omega) a1)
    have hfb := anyB_get f2 (show (d.getD p Dat.d0).task.toNat < first.length by omega)
    have hnx := hn (d.getD p Dat.d0).task t0 t1
    have hcl : (ofD (d.getD p Dat.d0).task (d.take p)).length ≤ p := Nat.le_trans (List.length_filter_le _ _) (by simp; omega)
    have ecd := countE hR c0 c1 (by omega)
    have ec1 : (countV s (d.getD p Dat.d0).came (d.getD p Dat.d0).at_).1 = uptoV s (d.getD p Dat.d0).at_ - uptoV s (d.getD p Dat.d0).came := by rw [ecd]
    have ec2 : (countV s (d.getD p Dat.d0).came (d.getD p Dat.d0).at_).2 = 0 := by rw [ecd]
    first
      | omega
      | exact ⟨by omega, by omega⟩
      | (unfold InR; omega)
      | (exfalso; omega)
      | (exfalso
         have h7 := inc (by omega)
         have e7 : ((p : Int) - 1).toNat = p - 1 := by omega
         rw [← e7] at h7
         omega)
      | exact ⟨⟨trivial, rfl, fun i _ => Dat.hok _⟩, hpre.2.1⟩
      | (refine ⟨WkX.next ⟨p, nx, w, hp, hl, hn, hw, hw0, hw1⟩ hpd a1 (hD p hpd), ?_, ?_, rfl, by (show d.length - (p + 1) < d.length - p); omega⟩
         · cbv
           repeat' first | (refine Stp.mk ?_; cbv) | (refine Gen.mk fun r hr => ?_; (try simp only [Dat.ok, Dat.dec, Leaf.ok, Leaf.val, Span.eta, Set.eta, Task.eta, Done.eta, job.eta, Late.eta, val_sl, val_nil] at hr); cbv) | exact trivial | rfl | refine Both.mk ?_ ?_ | (refine Imp.mk fun h => ?_; (try dsimp only at h); (try simp only [nc, Int.toNat_natCast, Bool.not_eq_true', Bool.not_eq_false', decide_eq_true_eq, decide_eq_false_iff_not, beq_iff_eq, beq_eq_false_iff_ne, ba_inj, bne_iff_ne, ne_eq, Bool.and_eq_true, Bool.or_eq_true, Bool.and_eq_false_iff, Bool.or_eq_false_iff, Int.not_le, Int.not_lt, Nat.not_le, Nat.not_lt] at h); (try simp only [nc] at h)) | refine Ob.mk ?_ ?_ | refine Chk.mk (by kernel_rfl) ?_ | refine Eq'.mk ?_ | (refine AllN.mk fun i hi => ?_; cbv) | (refine AllC.mk fun c hc hcm => ?_; (try dsimp only at hc); cbv) | (refine AllS.mk fun r hr => ?_; (try simp only [Dat.ok, Dat.dec, Leaf.ok, Leaf.val, Span.eta, Set.eta, Task.eta, Done.eta, job.eta, Late.eta, val_sl] at hr); cbv)
         · cbv
           repeat' first | (refine Stp.mk ?_; cbv) | (refine Gen.mk fun r hr => ?_; (try simp only [Dat.ok, Dat.dec, Leaf.ok, Leaf.val, Span.eta, Set.eta, Task.eta, Done.eta, job.eta, Late.eta, val_sl, val_nil] at hr); cbv) | exact trivial | rfl | refine Both.mk ?_ ?_ | (refine Imp.mk fun h => ?_; (try dsimp only at h); (try simp only [nc, Int.toNat_natCast, Bool.not_eq_true', Bool.not_eq_false', decide_eq_true_eq, decide_eq_false_iff_not, beq_iff_eq, beq_eq_false_iff_ne, ba_inj, bne_iff_ne, ne_eq, Bool.and_eq_true, Bool.or_eq_true, Bool.and_eq_false_iff, Bool.or_eq_false_iff, Int.not_le, Int.not_lt, Nat.not_le, Nat.not_lt] at h); (try simp only [nc] at h)) | refine Ob.mk ?_ ?_ | refine Chk.mk (by kernel_rfl) ?_ | refine Eq'.mk ?_ | (refine AllN.mk fun i hi => ?_; cbv) | (refine AllC.mk fun c hc hcm => ?_; (try dsimp only at hc); cbv) | (refine AllS.mk fun r hr => ?_; (try simp only [Dat.ok, Dat.dec, Leaf.ok, Leaf.val, Span.eta, Set.eta, Task.eta, Done.eta, job.eta, Late.eta, val_sl] at hr); cbv)
           all_goals ((try dsimp only at *); (try simp only [nc, Int.toNat_natCast, Bool.not_eq_true', Bool.not_eq_false', decide_eq_true_eq, decide_eq_false_iff_not, beq_iff_eq, beq_eq_false_iff_ne, ba_inj, bne_iff_ne, ne_eq, Bool.and_eq_true, Bool.or_eq_true, Bool.and_eq_false_iff, Bool.or_eq_false_iff, Int.not_le, Int.not_lt, Nat.not_le, Nat.not_lt] at *); (try simp only [nc] at *))
           all_goals first
             | (simp [WkX.next]; done)
             | exact (gd_set nx _ _ _ _ (by assumption)).symm
             | fail))
  all_goals have hpe : p = d.length := by omega
  all_goals rw [hpe, List.take_length] at hw
  all_goals first
    | (unfold InR; omega)
    | (refine fin ?_
       exact decide_eq_true (by omega))
    | (exfalso; exact absurd trivial (by assumption))
    | fail
section
open Go.ChangeShapes Go.WideShapes Go.ChangeAt Go.RowKit Go.Joins Go.Deep
set_option linter.unusedVariables false
theorem playwork_own : ownKnob Try.prog.godebug = none := by kernel_rfl
theorem playwork_laidOut : laidOutB Try.prog = true := by kernel_rfl
theorem playwork_readOk {ts : Array TypeId} (h : ts.toList.all (fun t => Try.prog.readableRec t && decide (t < Try.prog.types.size)) = true) : ∀ t ∈ ts.toList, Try.prog.readableRec t = true ∧ t < Try.prog.types.size := fun t ht => by
  have := List.all_eq_true.1 h t ht
  simpa using this
mutual
theorem playwork_bD {H : Type} : ∀ d : DataW H, Rows.uptoBulk d = bulkD d
  | .lit l => by cases l <;> simp [Rows.uptoBulk, bulkD]
  | .nil => by simp [Rows.uptoBulk, bulkD]
  | .ptr d => by simp [Rows.uptoBulk, bulkD, playwork_bD d]
  | .slice a b => by simp [Rows.uptoBulk, bulkD, playwork_bL a, playwork_bL b]
  | .agg a => by simp [Rows.uptoBulk, bulkD, playwork_bL a]
  | .iface _ d => by simp [Rows.uptoBulk, bulkD, playwork_bD d]
  | .map e => by simp [Rows.uptoBulk, bulkD, playwork_bE e]
  | .held _ => by simp [Rows.uptoBulk, bulkD]
theorem playwork_bL {H : Type} : ∀ d : List (DataW H), Rows.uptoBulkAll d = bulkL d
  | [] => by simp [Rows.uptoBulkAll, bulkL]
  | d :: r => by simp [Rows.uptoBulkAll, bulkL, playwork_bD d, playwork_bL r]
theorem playwork_bE {H : Type} : ∀ d : List (Lit × DataW H), Rows.uptoBulkEntries d = bulkE d
  | [] => by simp [Rows.uptoBulkEntries, bulkE]
  | d :: r => by simp [Rows.uptoBulkEntries, bulkE, playwork_bX d, playwork_bE r]
theorem playwork_bX {H : Type} : ∀ d : Lit × DataW H, Rows.uptoBulkEntry d = bulkX d
  | (l, d) => by cases l <;> simp [Rows.uptoBulkEntry, bulkX, playwork_bD d]
end
set_option maxRecDepth 100000 in
theorem playwork_lifted (os : Os) (started : os.Started) (H : Type) (enc : TypeId × Value → H) (F : Stop.Interp) :
    ReturnsInHanded {} Try.checked os 4 .any ((Rows.OpenSpec.upto Rows.playWorkSpec).pre6 enc Try.prog Try.f4 Rows.playWorkUptoRow.domain false) (((Rows.OpenSpec.upto Rows.playWorkSpec).at F).post enc Try.prog Try.f4 false true false false) := by
  refine returnsInHanded_of_cond (C := Try.checked) (s := Rows.OpenSpec.upto Rows.playWorkSpec) (k := Rows.uptoSmall) rfl playwork_own started (by kernel_rfl) Try.func4
    (OpenSpec.witness (enc := enc) (C := Try.checked) (s := Rows.OpenSpec.upto Rows.playWorkSpec) (k := Rows.uptoSmall) rfl false ⟨#[], #[.slice none 0 0, .agg #[.int .i64 0, .slice none 0 0], .slice none 0 0, .int .i64 0, .int .i64 0], []⟩ 8 (by kernel_rfl) (by kernel_rfl) (by kernel_rfl)
      (x := ([.nil, .agg [.lit (.int .i64 0), .nil], .nil, .lit (.int .i64 0), .lit (.int .i64 0)], [], [])) (by kernel_rfl) rfl (by kernel_rfl)) ?_
  intro W base args ds gs before hval0 hW _ hk _
  show Calls Try.prog 4 args W fun e W' => ∃ v, e = .returned v ∧ Rows.playWorkSpec.post enc Try.prog Try.f4 false true false false W args v W'
  have hval : ∀ (j : Nat) t v, Try.f4.params[j]? = some t → args[j]? = some v → Value.okWide Try.prog W .any base t v := hval0
  have hW' := hW
  have hlt := hW.lt
  obtain ⟨p, q, hA0, hV, rfl, hfz, hnd⟩ := hW
  have hA : DataW.TrodAll enc Try.prog W 0 (fun _ => true) true Try.f4.params.toList args.toList ds p := hA0
  have hA1 := hA
  rw [Try.params4] at hA hval
  obtain ⟨v0, vs0, d0, ds0, p0, q0, hargs, rfl, rfl, h0, r0⟩ := trodAll_cons hA
  obtain ⟨v1, vs1, d1, ds1, p1, q1, rfl, rfl, rfl, h1, r1⟩ := trodAll_cons r0
  obtain ⟨v2, vs2, d2, ds2, p2, q2, rfl, rfl, rfl, h2, r2⟩ := trodAll_cons r1
  obtain ⟨v3, vs3, d3, ds3, p3, q3, rfl, rfl, rfl, h3, r3⟩ := trodAll_cons r2
  obtain ⟨v4, vs4, d4, ds4, p4, q4, rfl, rfl, rfl, h4, r4⟩ := trodAll_cons r3
  obtain ⟨rfl, rfl, rfl⟩ := trodAll_nil r4
  obtain rfl : args = #[v0, v1, v2, v3, v4] := by cases args; simp_all
  obtain ⟨rfl, rfl⟩ := trodVars_none hV
  obtain ⟨z0, z'0, z''0, rfl⟩ := okWide_slice Try.underlying22 (hval 0 22 v0 rfl rfl)
  obtain ⟨y0, u0, b0, e0⟩ := arg_leaf (α := (List Task)) (opn_slice Try.underlying22 (by kernel_rfl) (by decide) opn_Task) rfl h0
  obtain ⟨cs1, rfl, _⟩ := okWide_struct Try.underlying25 (hval 1 25 v1 rfl rfl)
  obtain ⟨y1, u1, b1, e1⟩ := arg_agg (α := Set) opn_Set h1
  obtain ⟨z2, z'2, z''2, rfl⟩ := okWide_slice Try.underlying26 (hval 2 26 v2 rfl rfl)
  obtain ⟨y2, u2, b2, e2⟩ := arg_leaf (α := (List Int)) (opn_slice Try.underlying26 (by kernel_rfl) (by decide) (opn_int Try.underlying3)) rfl h2
  obtain ⟨z3, rfl⟩ := okWide_int Try.underlying3 (hval 3 3 v3 rfl rfl)
  obtain ⟨y3, u3, b3, e3⟩ := arg_leaf (α := Int) (opn_int Try.underlying3) rfl h3
  obtain ⟨z4, rfl⟩ := okWide_int Try.underlying3 (hval 4 3 v4 rfl rfl)
  obtain ⟨y4, u4, b4, e4⟩ := arg_leaf (α := Int) (opn_int Try.underlying3) rfl h4
  have hB : Siz.bulk y0 + Siz.bulk y1 + Siz.bulk y2 + Siz.bulk y3 + Siz.bulk y4 ≤ 1048576 := by
    have h := of_decide_eq_true hk
    rw [playwork_bL] at h
    simp only [List.append_nil, bulkL] at h
    omega
  have hR := repL_cons (M := fun _ => False) (β := fun _ => none) (cp := fun _ => 0) (.c e0) (repL_cons (M := fun _ => False) (β := fun _ => none) (cp := fun _ => 0) (.c e1) (repL_cons (M := fun _ => False) (β := fun _ => none) (cp := fun _ => 0) (.c e2) (repL_cons (M := fun _ => False) (β := fun _ => none) (cp := fun _ => 0) (.c e3) (repL_cons (M := fun _ => False) (β := fun _ => none) (cp := fun _ => 0) (.c e4) (repL_nil)))))
  refine (law_callsA (playwork_vc y0 y1 y2 y3 y4 u0 u1 u2 u3 u4 hB) hR).mono fun e W' ⟨he, bel⟩ => ?_
  subst he
  exact ⟨_, rfl, _, _, _, [], _, [], hW', trodAll_mk1 (shut_bool Try.underlying4 _), trodAll_below playwork_laidOut bel (playwork_readOk (by kernel_rfl)) (fun x hx => hlt x (List.mem_append_left _ hx)) hA1, rfl, bel.frame _, fun h => by cases h⟩
theorem PlayWork_proved : Rows.PlayWorkUptoSaid :=
  OpenClaim.holds_of_cond 4 Try.f4 rfl rfl rfl rfl rfl rfl rfl ⟨rfl, rfl, rfl, rfl, rfl⟩ rfl rfl rfl rfl rfl (by kernel_rfl) Try.func4 (by kernel_rfl)
    (of_decide_eq_true (by kernel_rfl)) (by unfold Func.isWrapper; first | (rw [if_pos (by decide +kernel)]; kernel_rfl) | (rw [if_neg (by decide +kernel)]; exact ⟨rfl, rfl⟩))
    (fun os started H enc _ F => playwork_lifted os started H enc F)
end

end Go.Proofs.Ythgmnejlhljlaaa
