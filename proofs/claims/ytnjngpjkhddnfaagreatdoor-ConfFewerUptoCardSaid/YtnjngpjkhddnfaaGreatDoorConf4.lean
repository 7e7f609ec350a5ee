/- conf.Judge: walked. -/
import Derived.Test.YtnjngpjkhddnfaaGreatDoorConf1
import Derived.Test.YtnjngpjkhddnfaaGreatDoorTask3
import Derived.Test.YtnjngpjkhddnfaaGreatDoorTimes
import Derived.Test.YtnjngpjkhddnfaaGreatDoorWantsP
set_option linter.all false
namespace Go.Proofs.YtnjngpjkhddnfaaGreatDoor
open Go Go.Abs

def tasksV (k : Int) : List PlanJob → List Task
 | [] => []
 | j :: r => if j.owner = k then j.task :: tasksV k r else tasksV k r
theorem tasks_drop {k : Int} {l : List PlanJob} {i : Nat} (hi : i < l.length) : tasksV k (l.drop i) = if (l.getD i Dat.d0).owner = k then (l.getD i Dat.d0).task :: tasksV k (l.drop (i + 1)) else tasksV k (l.drop (i + 1)) := by
 rw [drop_cons Dat.d0 hi, tasksV]
def fitB (p : Plan) (t : Table) (k : Int) : Bool := decide ((tasksV k p.jobs).length = 0) || (decide ((fitsV (tasksV k p.jobs) (timesV t k).1).2.2 = 0) && (fitsV (tasksV k p.jobs) (timesV t k).1).1)
def outB (p : Plan) (t : Table) (n : Nat) : List Bool := (List.range n).map fun i : Nat => fitB p t (i : Int)
def judgeV (p : Plan) : Table × List Bool × Int :=
 if pchkV p = 0 then (if (makeV p.frame p.wants).2 = 0 then ((makeV p.frame p.wants).1, outB p (makeV p.frame p.wants).1 16, 0) else (⟨0, []⟩, [], (makeV p.frame p.wants).2)) else (⟨0, []⟩, [], pchkV p)
theorem times_few (t : Table) (n : Int) : (timesV t n).1.spans.length ≤ 9223372036854775807 := by
 by_cases h : (timesV t n).2 = 0
 · obtain ⟨h1, h2⟩ := times_is h
   have := (times_rt h1 h2).rt.len
   omega
 · unfold timesV at h ⊢
   split
   · rename_i c
     rw [if_pos c] at h
     split
     · rename_i d
       rw [if_pos d] at h
       unfold ofV at h ⊢
       repeat' split
       all_goals first
         | exact Nat.zero_le _
         | (exfalso; simp_all; done)
     · exact Nat.zero_le _
   · exact Nat.zero_le _
theorem out_snoc {p : Plan} {t : Table} {n : Nat} : outB p t (n + 1) = outB p t n ++ [fitB p t (n : Int)] := by
 unfold outB
 rw [List.range_succ, List.map_append]; rfl
theorem out_len {p : Plan} {t : Table} {n : Nat} : (outB p t n).length = n := by
 unfold outB
 rw [List.length_map, List.length_range]
theorem out_bif {p : Plan} {t : Table} {n i : Nat} {b : Bool} (hb : fitB p t (n : Int) = b) (h : i < (outB p t n).length + 1) : (bif decide (i < (outB p t n).length) then (outB p t n).getD i Dat.d0 else b) = (outB p t (n + 1)).getD i Dat.d0 := by
 rw [out_snoc, hb, gd_snoc _ _ _ _ h]
theorem out_l {p : Plan} {t : Table} {n : Nat} : (outB p t n).length + 1 = (outB p t (n + 1)).length := by rw [out_len, out_len]
theorem fit_a {p : Plan} {t : Table} {k : Int} {l : List Task} (e : tasksV k p.jobs = l) (h : (l.length : Int) = 0) : fitB p t k = true := by
 rw [fitB, e, decide_eq_true (show l.length = 0 by omega), Bool.true_or]
theorem fit_b {p : Plan} {t : Table} {k : Int} {l : List Task} (e : tasksV k p.jobs = l) (h : ¬ (l.length : Int) = 0) (h2 : (fitsV l (timesV t k).1).2.2 = 0) : fitB p t k = (fitsV l (timesV t k).1).1 := by
 rw [fitB, e, decide_eq_false (show ¬ l.length = 0 by omega), Bool.false_or, decide_eq_true h2, Bool.true_and]
theorem fit_c {p : Plan} {t : Table} {k : Int} {l : List Task} (e : tasksV k p.jobs = l) (h : ¬ (l.length : Int) = 0) (h2 : ¬ (fitsV l (timesV t k).1).2.2 = 0) : fitB p t k = false := by
 rw [fitB, e, decide_eq_false (show ¬ l.length = 0 by omega), Bool.false_or, decide_eq_false h2, Bool.false_and]
structure JoX (p : Plan) (t : Table) where
 k : Nat
 hk : k ≤ 16
structure JiX (p : Plan) (k : Int) where
 i : Nat
 l : List Task
 hi : i ≤ p.jobs.length
 hl : l.length ≤ i
 hr : tasksV k p.jobs = l ++ tasksV k (p.jobs.drop i)
theorem pchk_if {p : Plan} : pchkV p = 0 ↔ (1 ≤ p.frame ∧ p.frame ≤ 1000000) ∧ (p.wants.length ≤ 200 ∧ p.jobs.length ≤ 100) ∧ p.wants.all wantF = true ∧ p.jobs.all jobF = true := by
 unfold pchkV
 by_cases h1 : p.frame < 1 ∨ 1000000 < p.frame
 · rw [if_pos h1]; constructor
   · intro h; cases h
   · intro h; omega
 · rw [if_neg h1]
   by_cases h2 : 200 < p.wants.length ∨ 100 < p.jobs.length
   · rw [if_pos h2]; constructor
     · intro h; cases h
     · intro h; omega
   · rw [if_neg h2]
     by_cases h3 : p.wants.all wantF = true ∧ p.jobs.all jobF = true
     · rw [if_pos h3]; exact ⟨fun _ => ⟨by omega, by omega, h3⟩, fun _ => rfl⟩
     · rw [if_neg h3]; constructor
       · intro h; cases h
       · intro h; exact absurd h.2.2 h3
noncomputable def cJu : FuncId → Con := fun f => match f with
 | 21 => pureCon (detPC pchk_D)
 | 22 => pureCon make_C
 | 23 => pureCon times_C
 | 24 => pureCon (detPC fits_D)
 | _ => fun _ _ _ => Bad 1001
theorem cJu_ok : ConOk Tryz.prog cJu := fun f A H K h => by
 unfold cJu at h
 split at h
 · exact ⟨⟨Tryz.f21, Tryz.func21, by kernel_rfl, by kernel_rfl⟩, pureCon_ok pchk_ok h⟩
 · exact ⟨⟨Tryz.f22, Tryz.func22, by kernel_rfl, by kernel_rfl⟩, pureCon_ok make_ok h⟩
 · exact ⟨⟨Tryz.f23, Tryz.func23, by kernel_rfl, by kernel_rfl⟩, pureCon_ok times_ok h⟩
 · exact ⟨⟨Tryz.f24, Tryz.func24, by kernel_rfl, by kernel_rfl⟩, pureCon_ok fits_ok h⟩
 · cases h
def dJu : FuncId → Option Dt := fun f => match f with
 | 21 => some (.c pchk_D)
 | 24 => some (.c fits_D)
 | _ => none
theorem dJu_ok : DetOk Tryz.prog dJu := fun f d h => by
 unfold dJu at h
 split at h
 · cases h; exact ⟨⟨Tryz.f21, Tryz.func21, by kernel_rfl, by kernel_rfl⟩, pchk_ok⟩
 · cases h; exact ⟨⟨Tryz.f24, Tryz.func24, by kernel_rfl, by kernel_rfl⟩, fits_ok⟩
 · cases h
def judge_R (r : Th (Table × (List Bool) × Int)) : AV := .tup [.agg [.i .i64 fun _ => (r ()).1.frame, .own 0 fun _ => (r ()).1.windows.length], .own 1 fun _ => (r ()).2.1.length, .i .i64 fun _ => (r ()).2.2]
def judge_H (r : Th (Table × (List Bool) × Int)) : Hp := [vecO 42 fun _ => (r ()).1.windows, vecO 4 fun _ => (r ()).2.1]
def judge_P (p : Plan) : Prop := p.wants.length ≤ 9223372036854775807 ∧ p.jobs.length ≤ 9223372036854775807
def judge_C : PC := fun A K => match A with
 | [.agg p] => Ob (fun _ => Dat.ok Plan p ∧ judge_P (Dat.dec p)) (Gen (α := Table × (List Bool) × Int) (fun _ => judgeV (Dat.dec p)) fun r => K (judge_R fun _ => r) (judge_H fun _ => r))
 | _ => Bad 1002
set_option maxRecDepth 100000 in
set_option maxHeartbeats 4000000 in
theorem judge_vc (p : Plan) (hp : judge_P p) : FnOk Tryz.prog 9 [.agg (Dat.enc fun _ => p)] [] (outA (judge_R fun _ => judgeV p) (judge_H fun _ => judgeV p)) := by
 refine fn_ok envOk zl cJu_ok (draws_ok envOk zl dJu_ok mixed) (keep := [0, 1, 2, 3, 4, 5, 6, 7, 8, 9, 10, 12, 13, 15, 17, 21, 33, 36, 37, 40, 41, 42, 43, 49]) Tryz.func9 rfl ?_
 obtain ⟨hp1, hp2⟩ : p.wants.length ≤ 9223372036854775807 ∧ p.jobs.length ≤ 9223372036854775807 := hp
 have fin0 : ∀ e H kl, judgeV p = (⟨0, []⟩, [], e) → outA (judge_R fun _ => judgeV p) (judge_H fun _ => judgeV p) (.tup [.agg [.i .i64 fun _ => 0, .nil], .nil, .i .i64 fun _ => e]) H kl := fun e H kl h => by
   rw [h]
   cbv
   repeat' first | (refine Stp.mk ?_; cbv) | (refine Gen.mk fun r hr => ?_; (try simp only [Dat.ok, Dat.dec, Leaf.ok, Leaf.val, Z0, Z1, Z2, Z3, Z4, Z5, Z6, Z7, val_sl, val_nil] at hr); cbv) | exact trivial | rfl | refine Both.mk ?_ ?_ | (refine Imp.mk fun h => ?_; (try dsimp only at h); (try simp only [nc, Int.toNat_natCast, ne_eq, zz] at h); (try simp only [nc] at h)) | refine Ob.mk ?_ ?_ | refine Chk.mk (by kernel_rfl) ?_ | refine Eq'.mk ?_ | (refine AllN.mk fun i hi => ?_; cbv) | (refine AllC.mk fun c hc hcm => ?_; (try dsimp only at hc); cbv) | (refine AllS.mk fun r hr => ?_; (try simp only [Dat.ok, Dat.dec, Leaf.ok, Leaf.val, Z0, Z1, Z2, Z3, Z4, Z5, Z6, Z7, val_sl] at hr); cbv)
   all_goals exact absurd hi (Nat.not_lt_zero _)
 generalize hK : outA (judge_R fun _ => judgeV p) (judge_H fun _ => judgeV p) = K at fin0 ⊢
 cbv
 repeat' first | (show Stp _; exfalso; first | omega | (exact h ‹_›) | (exact absurd ‹_› h) | (exact Bool.false_ne_true (h.symm.trans (show _ = true by assumption)))) | (refine Stp.mk ?_; cbv) | (refine Gen.mk fun r hr => ?_; (try simp only [Dat.ok, Dat.dec, Leaf.ok, Leaf.val, Z0, Z1, Z2, Z3, Z4, Z5, Z6, Z7, val_sl, val_nil] at hr); cbv) | exact trivial | rfl | refine Both.mk ?_ ?_ | (refine Imp.mk fun h => ?_; (try dsimp only at h); (try simp only [nc, Int.toNat_natCast, ne_eq, zz] at h); (try simp only [nc] at h)) | refine Ob.mk ?_ ?_ | refine Chk.mk (by kernel_rfl) ?_ | refine Eq'.mk ?_ | (refine AllN.mk fun i hi => ?_; cbv) | (refine AllC.mk fun c hc hcm => ?_; (try dsimp only at hc); cbv) | (refine AllS.mk fun r hr => ?_; (try simp only [Dat.ok, Dat.dec, Leaf.ok, Leaf.val, Z0, Z1, Z2, Z3, Z4, Z5, Z6, Z7, val_sl] at hr); cbv)
 all_goals ((try dsimp only at *); (try simp only [nc, Int.toNat_natCast, ne_eq, zz] at *); (try simp only [nc] at *))
 all_goals try simp only [Dat.dec, Leaf.val, Z0, Z1, Z2, Z3, Z4, Z5, Z6, Z7, val_sl] at *
 all_goals first
   | (refine ⟨⟨trivial, ⟨rfl, fun i _ => Dat.hok _⟩, rfl, fun i _ => Dat.hok _⟩, (?_ : p.wants.length ≤ 9223372036854775807 ∧ p.jobs.length ≤ 9223372036854775807)⟩
      exact ⟨by omega, by omega⟩)
   | (refine fin0 _ _ _ ?_
      rw [judgeV, if_neg (by assumption)]
      done)
   | exact ⟨⟨rfl, fun i _ => Dat.hok _⟩, hp1⟩
   | (refine fin0 _ _ _ ?_
      rw [judgeV, if_pos (by assumption), if_neg (by rw [← hr]; assumption), ← hr])
   | skip
 have h0 : pchkV p = 0 := by assumption
 have h1 : r.2 = 0 := by assumption
 have hJ : judgeV p = (r.1, outB p r.1 16, 0) := by rw [judgeV, if_pos h0, ← hr, if_pos h1]
 have hjl : p.jobs.length ≤ 100 := by have := pchk_if.1 h0; omega
 subst hr
 have hwl := make_len p.frame p.wants
 generalize makeV p.frame p.wants = m at *
 refine LoopVC.frame [8, 9, 10, 12, 13, 15, 17, 36, 37, 40, 41, 42, 43, 49] (JoX p m.1) (fun x => [(36, .i .i64 fun _ => x.k), (8, .own 4 fun _ => (outB p m.1 x.k).length)]) (fun x => [(4, vecO 4 fun _ => outB p m.1 x.k)]) [4, 5] (fun x => 16 - x.k) ⟨0, Nat.zero_le _⟩ rfl (fun _ => rfl) ?_ ?_ fun ⟨k, hk⟩ => ?_
 · cbv
   repeat' first | (refine Stp.mk ?_; cbv) | (refine Gen.mk fun r hr => ?_; (try simp only [Dat.ok, Dat.dec, Leaf.ok, Leaf.val, Z0, Z1, Z2, Z3, Z4, Z5, Z6, Z7, val_sl, val_nil] at hr); cbv) | exact trivial | rfl | refine Both.mk ?_ ?_ | (refine Imp.mk fun h => ?_; (try dsimp only at h); (try simp only [nc, Int.toNat_natCast, ne_eq, zz] at h); (try simp only [nc] at h)) | refine Ob.mk ?_ ?_ | refine Chk.mk (by kernel_rfl) ?_ | refine Eq'.mk ?_ | (refine AllN.mk fun i hi => ?_; cbv) | (refine AllC.mk fun c hc hcm => ?_; (try dsimp only at hc); cbv) | (refine AllS.mk fun r hr => ?_; (try simp only [Dat.ok, Dat.dec, Leaf.ok, Leaf.val, Z0, Z1, Z2, Z3, Z4, Z5, Z6, Z7, val_sl] at hr); cbv)
   all_goals fail
 · cbv
   repeat' first | (refine Stp.mk ?_; cbv) | (refine Gen.mk fun r hr => ?_; (try simp only [Dat.ok, Dat.dec, Leaf.ok, Leaf.val, Z0, Z1, Z2, Z3, Z4, Z5, Z6, Z7, val_sl, val_nil] at hr); cbv) | exact trivial | rfl | refine Both.mk ?_ ?_ | (refine Imp.mk fun h => ?_; (try dsimp only at h); (try simp only [nc, Int.toNat_natCast, ne_eq, zz] at h); (try simp only [nc] at h)) | refine Ob.mk ?_ ?_ | refine Chk.mk (by kernel_rfl) ?_ | refine Eq'.mk ?_ | (refine AllN.mk fun i hi => ?_; cbv) | (refine AllC.mk fun c hc hcm => ?_; (try dsimp only at hc); cbv) | (refine AllS.mk fun r hr => ?_; (try simp only [Dat.ok, Dat.dec, Leaf.ok, Leaf.val, Z0, Z1, Z2, Z3, Z4, Z5, Z6, Z7, val_sl] at hr); cbv)
   all_goals fail
 cbv
 repeat' first | (show Stp _; exfalso; first | omega | (exact h ‹_›) | (exact absurd ‹_› h) | (exact Bool.false_ne_true (h.symm.trans (show _ = true by assumption)))) | (refine Stp.mk ?_; cbv) | (refine Gen.mk fun r hr => ?_; (try simp only [Dat.ok, Dat.dec, Leaf.ok, Leaf.val, Z0, Z1, Z2, Z3, Z4, Z5, Z6, Z7, val_sl, val_nil] at hr); cbv) | exact trivial | rfl | refine Both.mk ?_ ?_ | (refine Imp.mk fun h => ?_; (try dsimp only at h); (try simp only [nc, Int.toNat_natCast, ne_eq, zz] at h); (try simp only [nc] at h)) | refine Ob.mk ?_ ?_ | refine Chk.mk (by kernel_rfl) ?_ | refine Eq'.mk ?_ | (refine AllN.mk fun i hi => ?_; cbv) | (refine AllC.mk fun c hc hcm => ?_; (try dsimp only at hc); cbv) | (refine AllS.mk fun r hr => ?_; (try simp only [Dat.ok, Dat.dec, Leaf.ok, Leaf.val, Z0, Z1, Z2, Z3, Z4, Z5, Z6, Z7, val_sl] at hr); cbv)
 all_goals ((try dsimp only at *); (try simp only [nc, Int.toNat_natCast, ne_eq, zz] at *); (try simp only [nc] at *))
 all_goals try rw [nc] at *
 all_goals try simp only [Dat.dec, Leaf.val, Z0, Z1, Z2, Z3, Z4, Z5, Z6, Z7, val_sl] at *
 all_goals first
   | (have e16 : k = 16 := by omega
      subst e16
      subst hK
      rw [hJ]
      cbv
      repeat' first | (refine Stp.mk ?_; cbv) | (refine Gen.mk fun r hr => ?_; (try simp only [Dat.ok, Dat.dec, Leaf.ok, Leaf.val, Z0, Z1, Z2, Z3, Z4, Z5, Z6, Z7, val_sl, val_nil] at hr); cbv) | exact trivial | rfl | refine Both.mk ?_ ?_ | (refine Imp.mk fun h => ?_; (try dsimp only at h); (try simp only [nc, Int.toNat_natCast, ne_eq, zz] at h); (try simp only [nc] at h)) | refine Ob.mk ?_ ?_ | refine Chk.mk (by kernel_rfl) ?_ | refine Eq'.mk ?_ | (refine AllN.mk fun i hi => ?_; cbv) | (refine AllC.mk fun c hc hcm => ?_; (try dsimp only at hc); cbv) | (refine AllS.mk fun r hr => ?_; (try simp only [Dat.ok, Dat.dec, Leaf.ok, Leaf.val, Z0, Z1, Z2, Z3, Z4, Z5, Z6, Z7, val_sl] at hr); cbv)
      all_goals fail)
   | skip
 have hk2 : k < 16 := by omega
 refine LoopVC.frame [10, 12, 42, 43, 49] (JiX p k) (fun x => [(42, .i .i64 fun _ => x.i), (10, .own 5 fun _ => x.l.length)]) (fun x => [(4, vecO 4 fun _ => outB p m.1 k), (5, vecO 31 fun _ => x.l)]) [4, 5] (fun x => p.jobs.length - x.i) ⟨0, [], Nat.zero_le _, Nat.le_refl _, rfl⟩ rfl (fun _ => rfl) ?_ ?_ fun ⟨q, l, hi, hl, hr2⟩ => ?_
 · cbv
   repeat' first | (refine Stp.mk ?_; cbv) | (refine Gen.mk fun r hr => ?_; (try simp only [Dat.ok, Dat.dec, Leaf.ok, Leaf.val, Z0, Z1, Z2, Z3, Z4, Z5, Z6, Z7, val_sl, val_nil] at hr); cbv) | exact trivial | rfl | refine Both.mk ?_ ?_ | (refine Imp.mk fun h => ?_; (try dsimp only at h); (try simp only [nc, Int.toNat_natCast, ne_eq, zz] at h); (try simp only [nc] at h)) | refine Ob.mk ?_ ?_ | refine Chk.mk (by kernel_rfl) ?_ | refine Eq'.mk ?_ | (refine AllN.mk fun i hi => ?_; cbv) | (refine AllC.mk fun c hc hcm => ?_; (try dsimp only at hc); cbv) | (refine AllS.mk fun r hr => ?_; (try simp only [Dat.ok, Dat.dec, Leaf.ok, Leaf.val, Z0, Z1, Z2, Z3, Z4, Z5, Z6, Z7, val_sl] at hr); cbv)
   all_goals fail
 · cbv
   repeat' first | (refine Stp.mk ?_; cbv) | (refine Gen.mk fun r hr => ?_; (try simp only [Dat.ok, Dat.dec, Leaf.ok, Leaf.val, Z0, Z1, Z2, Z3, Z4, Z5, Z6, Z7, val_sl, val_nil] at hr); cbv) | exact trivial | rfl | refine Both.mk ?_ ?_ | (refine Imp.mk fun h => ?_; (try dsimp only at h); (try simp only [nc, Int.toNat_natCast, ne_eq, zz] at h); (try simp only [nc] at h)) | refine Ob.mk ?_ ?_ | refine Chk.mk (by kernel_rfl) ?_ | refine Eq'.mk ?_ | (refine AllN.mk fun i hi => ?_; cbv) | (refine AllC.mk fun c hc hcm => ?_; (try dsimp only at hc); cbv) | (refine AllS.mk fun r hr => ?_; (try simp only [Dat.ok, Dat.dec, Leaf.ok, Leaf.val, Z0, Z1, Z2, Z3, Z4, Z5, Z6, Z7, val_sl] at hr); cbv)
   all_goals fail
 have hi9 : q ≤ p.jobs.length := hi
 have hl9 : l.length ≤ q := hl
 have hr9 : tasksV k p.jobs = l ++ tasksV k (p.jobs.drop q) := hr2
 have hs9 := times_few m.1 k
 have ho9 := out_len (p := p) (t := m.1) (n := k)
 cbv
 repeat' first | (show Stp _; exfalso; first | omega | (exact h ‹_›) | (exact absurd ‹_› h) | (exact Bool.false_ne_true (h.symm.trans (show _ = true by assumption)))) | (refine Stp.mk ?_; cbv) | (refine Gen.mk fun r hr => ?_; (try simp only [Dat.ok, Dat.dec, Leaf.ok, Leaf.val, Z0, Z1, Z2, Z3, Z4, Z5, Z6, Z7, val_sl, val_nil] at hr); cbv) | exact trivial | rfl | refine Both.mk ?_ ?_ | (refine Imp.mk fun h => ?_; (try dsimp only at h); (try simp only [nc, Int.toNat_natCast, ne_eq, zz] at h); (try simp only [nc] at h)) | refine Ob.mk ?_ ?_ | refine Chk.mk (by kernel_rfl) ?_ | refine Eq'.mk ?_ | (refine AllN.mk fun i hi => ?_; cbv) | (refine AllC.mk fun c hc hcm => ?_; (try dsimp only at hc); cbv) | (refine AllS.mk fun r hr => ?_; (try simp only [Dat.ok, Dat.dec, Leaf.ok, Leaf.val, Z0, Z1, Z2, Z3, Z4, Z5, Z6, Z7, val_sl] at hr); cbv)
 all_goals ((try dsimp only at *); (try simp only [nc, Int.toNat_natCast, ne_eq, zz] at *); (try simp only [nc] at *))
 all_goals try rw [nc] at *
 all_goals try simp only [Dat.dec, Leaf.val, Z0, Z1, Z2, Z3, Z4, Z5, Z6, Z7, val_sl] at *
 all_goals subst_vars
 all_goals try have e9 : tasksV k p.jobs = l := by rw [hr9, List.drop_eq_nil_of_le (by omega), tasksV, List.append_nil]
 all_goals try first
   | omega
   | exact ⟨by omega, by omega⟩
   | exact Nat.le_refl _
   | exact ⟨Nat.le_refl _, Nat.le_refl _, by omega, by omega, Nat.le_refl _⟩
   | (show InR ((q : Int) + 1); unfold InR; omega)
   | (show InR ((k : Int) + 1); unfold InR; omega)
   | exact ⟨⟨trivial, rfl, fun i _ => Dat.hok _⟩, hwl⟩
   | (refine ⟨⟨rfl, fun i _ => Dat.hok _⟩, ⟨trivial, rfl, fun i _ => Dat.hok _⟩, (?_ : l.length ≤ 9223372036854775807 ∧ _ ≤ 9223372036854775807)⟩
      exact ⟨by omega, hs9⟩)
   | (refine ⟨⟨q + 1, l ++ [(p.jobs.getD q Dat.d0).task], by omega, by rw [List.length_append, List.length_singleton]; omega, by rw [hr9, tasks_drop (by omega), if_pos (by assumption), List.append_assoc]; rfl⟩, ?_, ?_, rfl, by (try dsimp only); omega⟩
      · cbv
        repeat' first | (refine Stp.mk ?_; cbv) | (refine Gen.mk fun r hr => ?_; (try simp only [Dat.ok, Dat.dec, Leaf.ok, Leaf.val, Z0, Z1, Z2, Z3, Z4, Z5, Z6, Z7, val_sl, val_nil] at hr); cbv) | exact trivial | rfl | refine Both.mk ?_ ?_ | (refine Imp.mk fun h => ?_; (try dsimp only at h); (try simp only [nc, Int.toNat_natCast, ne_eq, zz] at h); (try simp only [nc] at h)) | refine Ob.mk ?_ ?_ | refine Chk.mk (by kernel_rfl) ?_ | refine Eq'.mk ?_ | (refine AllN.mk fun i hi => ?_; cbv) | (refine AllC.mk fun c hc hcm => ?_; (try dsimp only at hc); cbv) | (refine AllS.mk fun r hr => ?_; (try simp only [Dat.ok, Dat.dec, Leaf.ok, Leaf.val, Z0, Z1, Z2, Z3, Z4, Z5, Z6, Z7, val_sl] at hr); cbv)
        all_goals (simp; done)
      · cbv
        repeat' first | (refine Stp.mk ?_; cbv) | (refine Gen.mk fun r hr => ?_; (try simp only [Dat.ok, Dat.dec, Leaf.ok, Leaf.val, Z0, Z1, Z2, Z3, Z4, Z5, Z6, Z7, val_sl, val_nil] at hr); cbv) | exact trivial | rfl | refine Both.mk ?_ ?_ | (refine Imp.mk fun h => ?_; (try dsimp only at h); (try simp only [nc, Int.toNat_natCast, ne_eq, zz] at h); (try simp only [nc] at h)) | refine Ob.mk ?_ ?_ | refine Chk.mk (by kernel_rfl) ?_ | refine Eq'.mk ?_ | (refine AllN.mk fun i hi => ?_; cbv) | (refine AllC.mk fun c hc hcm => ?_; (try dsimp only at hc); cbv) | (refine AllS.mk fun r hr => ?_; (try simp only [Dat.ok, Dat.dec, Leaf.ok, Leaf.val, Z0, Z1, Z2, Z3, Z4, Z5, Z6, Z7, val_sl] at hr); cbv)
        all_goals first
          | (simp; done)
          | (have e := gd_snoc l ((p.jobs.getD q Dat.d0).task) Dat.d0 i (by assumption)
             dsimp only
             rw [e]; cases decide (i < l.length) <;> rfl))
   | (refine ⟨⟨q + 1, l, by omega, by omega, by rw [hr9, tasks_drop (by omega), if_neg (by assumption)]⟩, ?_, ?_, rfl, by (try dsimp only); omega⟩
      · cbv
        repeat' first | (refine Stp.mk ?_; cbv) | (refine Gen.mk fun r hr => ?_; (try simp only [Dat.ok, Dat.dec, Leaf.ok, Leaf.val, Z0, Z1, Z2, Z3, Z4, Z5, Z6, Z7, val_sl, val_nil] at hr); cbv) | exact trivial | rfl | refine Both.mk ?_ ?_ | (refine Imp.mk fun h => ?_; (try dsimp only at h); (try simp only [nc, Int.toNat_natCast, ne_eq, zz] at h); (try simp only [nc] at h)) | refine Ob.mk ?_ ?_ | refine Chk.mk (by kernel_rfl) ?_ | refine Eq'.mk ?_ | (refine AllN.mk fun i hi => ?_; cbv) | (refine AllC.mk fun c hc hcm => ?_; (try dsimp only at hc); cbv) | (refine AllS.mk fun r hr => ?_; (try simp only [Dat.ok, Dat.dec, Leaf.ok, Leaf.val, Z0, Z1, Z2, Z3, Z4, Z5, Z6, Z7, val_sl] at hr); cbv)
      · cbv
        repeat' first | (refine Stp.mk ?_; cbv) | (refine Gen.mk fun r hr => ?_; (try simp only [Dat.ok, Dat.dec, Leaf.ok, Leaf.val, Z0, Z1, Z2, Z3, Z4, Z5, Z6, Z7, val_sl, val_nil] at hr); cbv) | exact trivial | rfl | refine Both.mk ?_ ?_ | (refine Imp.mk fun h => ?_; (try dsimp only at h); (try simp only [nc, Int.toNat_natCast, ne_eq, zz] at h); (try simp only [nc] at h)) | refine Ob.mk ?_ ?_ | refine Chk.mk (by kernel_rfl) ?_ | refine Eq'.mk ?_ | (refine AllN.mk fun i hi => ?_; cbv) | (refine AllC.mk fun c hc hcm => ?_; (try dsimp only at hc); cbv) | (refine AllS.mk fun r hr => ?_; (try simp only [Dat.ok, Dat.dec, Leaf.ok, Leaf.val, Z0, Z1, Z2, Z3, Z4, Z5, Z6, Z7, val_sl] at hr); cbv))
   | (refine ⟨⟨k + 1, by omega⟩, ?_, ?_, rfl, by (try dsimp only); omega⟩
      · cbv
        repeat' first | (refine Stp.mk ?_; cbv) | (refine Gen.mk fun r hr => ?_; (try simp only [Dat.ok, Dat.dec, Leaf.ok, Leaf.val, Z0, Z1, Z2, Z3, Z4, Z5, Z6, Z7, val_sl, val_nil] at hr); cbv) | exact trivial | rfl | refine Both.mk ?_ ?_ | (refine Imp.mk fun h => ?_; (try dsimp only at h); (try simp only [nc, Int.toNat_natCast, ne_eq, zz] at h); (try simp only [nc] at h)) | refine Ob.mk ?_ ?_ | refine Chk.mk (by kernel_rfl) ?_ | refine Eq'.mk ?_ | (refine AllN.mk fun i hi => ?_; cbv) | (refine AllC.mk fun c hc hcm => ?_; (try dsimp only at hc); cbv) | (refine AllS.mk fun r hr => ?_; (try simp only [Dat.ok, Dat.dec, Leaf.ok, Leaf.val, Z0, Z1, Z2, Z3, Z4, Z5, Z6, Z7, val_sl] at hr); cbv)
        all_goals exact out_l
      · cbv
        repeat' first | (refine Stp.mk ?_; cbv) | (refine Gen.mk fun r hr => ?_; (try simp only [Dat.ok, Dat.dec, Leaf.ok, Leaf.val, Z0, Z1, Z2, Z3, Z4, Z5, Z6, Z7, val_sl, val_nil] at hr); cbv) | exact trivial | rfl | refine Both.mk ?_ ?_ | (refine Imp.mk fun h => ?_; (try dsimp only at h); (try simp only [nc, Int.toNat_natCast, ne_eq, zz] at h); (try simp only [nc] at h)) | refine Ob.mk ?_ ?_ | refine Chk.mk (by kernel_rfl) ?_ | refine Eq'.mk ?_ | (refine AllN.mk fun i hi => ?_; cbv) | (refine AllC.mk fun c hc hcm => ?_; (try dsimp only at hc); cbv) | (refine AllS.mk fun r hr => ?_; (try simp only [Dat.ok, Dat.dec, Leaf.ok, Leaf.val, Z0, Z1, Z2, Z3, Z4, Z5, Z6, Z7, val_sl] at hr); cbv)
        all_goals first
          | exact out_l
          | exact out_bif (fit_a e9 (by assumption)) (by assumption)
          | exact out_bif (fit_b e9 (by assumption) (by assumption)) (by assumption)
          | exact out_bif (fit_c e9 (by assumption) (by assumption)) (by assumption)
          | fail)
theorem judge_ok : PcOk Tryz.prog 9 (judge_C) := fun A K h => by
 unfold judge_C at h
 split at h
 · rename_i p
   cases h with
   | mk h1 h2 =>
     obtain ⟨g0, hp⟩ := h1
     refine FnOk.pre ?_ (A' := [.agg (Dat.enc fun _ => (Dat.dec p : Plan))]) (.mk (Dat.hle _ g0) (trivial))
     exact FnOk.out (K := fun r H _ => K r H) (judge_vc (Dat.dec p) hp) rfl h2.out
 · cases h

end Go.Proofs.YtnjngpjkhddnfaaGreatDoor
