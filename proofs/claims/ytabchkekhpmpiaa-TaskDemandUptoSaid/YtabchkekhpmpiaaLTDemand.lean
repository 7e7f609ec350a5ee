/- More time wants no less; of two lists it is the sum; for all inputs. -/
import Derived.Test.YtabchkekhpmpiaaTaskP
import Derived.Test.YtabchkekhpmpiaaDel
set_option linter.all false
namespace Go.Proofs.Ytabchkekhpmpiaa
open Go Go.Abs

theorem dem_rev {n : Int} {l m : List Task} (h1 : (DemV l n).2 = 0) (h2 : (DemV m n).2 = 0) (h : l.length + m.length ≤ 16) : DemV (l ++ m).reverse n = ((DemV l n).1 + (DemV m n).1, 0) := by
  obtain ⟨a1, a2, a3, a4, a5, a6⟩ := dem_rt h1
  obtain ⟨b1, b2, b3, b4, b5, b6⟩ := dem_rt h2
  have hc : tchkV (l ++ m).reverse = 0 := tchk_iff.2 ⟨by rw [List.length_reverse, List.length_append]; exact h, by rw [List.all_reverse, List.all_append, a3, b3]; rfl⟩
  rw [dem_go hc a4 a5, demS_perm (List.reverse_perm _), demS_app, a6, b6]
theorem most_drop {l : List Task} {k : Nat} (n : Int) (hk : k < l.length) : mostS n (l.drop k) = (l.getD k Dat.d0).long * (n.tdiv (l.getD k Dat.d0).every + 1) + mostS n (l.drop (k + 1)) := by
  rw [drop_cons Dat.d0 hk, mostS]
structure MoX (l : List Task) (n : Int) where
  k : Nat
  s : Int
  hk : k ≤ l.length
  s0 : 0 ≤ s
  s1 : s ≤ k * 10995116277770000
  he : mostS n l = s + mostS n (l.drop k)
noncomputable def cTD : FuncId → Con := fun f => match f with
  | 34 => pureCon (detPC Dmd_D)
  | 35 => pureCon (detPC tlives_D)
  | 19 => pureCon clTask_C
  | 41 => rvTask_K
  | _ => fun _ _ _ => Bad 1001
theorem cTD_ok : ConOk Try.prog cTD := fun f A H K h => by
  unfold cTD at h
  split at h
  · exact ⟨⟨Try.f34, Try.func34, by kernel_rfl, by kernel_rfl⟩, pureCon_ok Dmd_ok h⟩
  · exact ⟨⟨Try.f35, Try.func35, by kernel_rfl, by kernel_rfl⟩, pureCon_ok tlives_ok h⟩
  · exact ⟨⟨Try.f19, Try.func19, by kernel_rfl, by kernel_rfl⟩, pureCon_ok clTask_ok h⟩
  · exact ⟨⟨Try.f41, Try.func41, by kernel_rfl, by kernel_rfl⟩, rvTask_ok h⟩
  · cases h
def dTD : FuncId → Option Dt := fun f => match f with
  | 19 => some (.n clTaskN_N)
  | _ => none
theorem dTD_ok : DetOk Try.prog dTD := fun f d h => by
  unfold dTD at h
  split at h
  · cases h; exact ⟨⟨Try.f19, Try.func19, by kernel_rfl, by kernel_rfl⟩, clTaskN_okN⟩
  · cases h
set_option maxRecDepth 100000 in
set_option maxHeartbeats 4000000 in
theorem tdemand_vc (l : (List Task)) (m : (List Task)) (n : Int) (more : Int) (fit_l : Siz.fit l) (fit_m : Siz.fit m) (fit_n : Siz.fit n) (fit_more : Siz.fit more) (hB : Siz.bulk l + Siz.bulk m + Siz.bulk n + Siz.bulk more ≤ 1048576) : FnOk Try.prog 13 [Leaf.av fun _ => l, Leaf.av fun _ => m, .i .i64 fun _ => n, .i .i64 fun _ => more] [] (outA (.bc true) []) := by
  refine fn_ok envOk zl cTD_ok (draws_ok envOk zl dTD_ok mixed) (keep := [0, 1, 2, 3, 8, 9, 10, 11, 12, 13, 14, 15, 16, 17, 18, 20, 50, 72, 80, 95, 96, 97, 98, 99]) Try.func13 rfl ?_
  have fin := @fin_b
  have finc := @fin_t
  have hl : l.length ≤ 1048576 ∧ m.length ≤ 1048576 := by
    have h1 := bulk_len (α := Task) Task.one_le l
    have h2 := bulk_len (α := Task) Task.one_le m
    simp only [Siz.bulk] at hB h1 h2
    omega
  generalize outA (.bc true) [] = K at fin finc
  cbv
  repeat' first | (show Stp _; exfalso; first | omega | (exact h ‹_›) | (exact absurd ‹_› h) | (exact Bool.false_ne_true (h.symm.trans (show _ = true by assumption)))) | (refine Stp.mk ?_; cbv) | (refine Gen.mk fun r hr => ?_; (try simp only [Dat.ok, Dat.dec, Leaf.ok, Leaf.val, Span.eta, Set.eta, Task.eta, Done.eta, Late.eta, val_sl, val_nil] at hr); cbv) | exact trivial | rfl | refine Both.mk ?_ ?_ | (refine Imp.mk fun h => ?_; (try dsimp only at h); (try simp only [nc, Int.toNat_natCast, Bool.not_eq_true', Bool.not_eq_false', decide_eq_true_eq, decide_eq_false_iff_not, beq_iff_eq, beq_eq_false_iff_ne, ba_inj, bne_iff_ne, ne_eq, Bool.and_eq_true, Bool.or_eq_true, Bool.and_eq_false_iff, Bool.or_eq_false_iff, Int.not_le, Int.not_lt, Nat.not_le, Nat.not_lt] at h); (try simp only [nc] at h)) | refine Ob.mk ?_ ?_ | refine Chk.mk (by kernel_rfl) ?_ | refine Eq'.mk ?_ | (refine AllN.mk fun i hi => ?_; cbv) | (refine AllS.mk fun r hr => ?_; (try simp only [Dat.ok, Dat.dec, Leaf.ok, Leaf.val, Span.eta, Set.eta, Task.eta, Done.eta, Late.eta, val_sl] at hr); cbv)
  all_goals ((try dsimp only at *); (try simp only [nc, Int.toNat_natCast, Bool.not_eq_true', Bool.not_eq_false', decide_eq_true_eq, decide_eq_false_iff_not, beq_iff_eq, beq_eq_false_iff_ne, ba_inj, bne_iff_ne, ne_eq, Bool.and_eq_true, Bool.or_eq_true, Bool.and_eq_false_iff, Bool.or_eq_false_iff, Int.not_le, Int.not_lt, Nat.not_le, Nat.not_lt] at *); (try simp only [nc] at *))
  all_goals try simp only [Dat.dec, Leaf.val, Span.eta, Set.eta, Task.eta, Done.eta, Late.eta, val_sl, val_app (α := Task) _ _ 3 _ _ rfl rfl rfl] at *
  all_goals try (have hq2 : _ = r := hr.symm; clear hr; subst hq2)
  all_goals try (rename (_ = l) => hq3; have hq4 := hq3.symm; clear hq3; subst hq4)
  all_goals try simp only [List.length_append] at *
  all_goals have hrl : (l ++ m).reverse.length = l.length + m.length := (by rw [List.length_reverse, List.length_append])
  all_goals have ev := val_len (α := Task) (l := (l ++ m).reverse) (n := l.length + m.length) 3 hrl.symm
  all_goals try simp only [show rvTask_F (l ++ m) = (l ++ m).reverse from rfl] at *
  all_goals try simp only [ev] at *
  all_goals first
    | exact finc
    | exact Nat.le_refl _
    | exact ⟨rfl, fun i _ => Dat.hok _⟩
    | exact ⟨⟨rfl, fun i _ => Dat.hok _⟩, show _ ≤ _ by omega⟩
    | exact ⟨⟨rfl, fun i _ => Dat.hok _⟩, show (l ++ m).reverse.length ≤ _ by omega⟩
    | exact ⟨Nat.le_refl _, trivial, by omega, by omega⟩
    | exact ⟨rfl, trivial, fun i _ => ok_row rfl (Dat.hok _) (Dat.hok _), show (l ++ m).length ≤ _ by rw [List.length_append]; omega⟩
    | (unfold InR; omega)
    | (rw [hrl]; exact Nat.le_refl _)
    | skip
  all_goals obtain ⟨a1, a2, a3, a4, a5, a6⟩ := dem_rt (by assumption : (DemV l n).2 = 0)
  all_goals obtain ⟨b1, b2, b3, b4, b5, b6⟩ := dem_rt (by assumption : (DemV m n).2 = 0)
  all_goals have hsum := dem_rev (by assumption : (DemV l n).2 = 0) (by assumption : (DemV m n).2 = 0) (by omega)
  all_goals have c1 := demS_bd a4 a5 a3
  all_goals have c2 := demS_bd b4 b5 b3
  all_goals simp only [hsum, a6, b6] at *
  all_goals first
    | (unfold InR; omega)
    | (exfalso; omega)
    | (exfalso; exact h trivial)
    | (have g := dem_go (n := n + more) a1 (by omega) (by omega)
       have g2 := demS_mono (m := n + more) a4 (by omega) a3
       simp only [g] at *
       first
         | (exfalso; omega)
         | (exfalso; exact h trivial))
    | skip
  all_goals have hmm := demS_most a4 a3
  all_goals have h0 := demS_nn a4 a3
  all_goals (refine LoopVC.frame [18, 20, 98, 99] (MoX l n) (fun x => [(98, .i .i64 fun _ => x.k), (18, .i .i64 fun _ => x.s)]) (fun _ => []) [0] (fun x => l.length - x.k) ⟨0, 0, Nat.zero_le _, Int.le_refl _, by decide, by simp⟩ rfl (fun _ => rfl) ?_ ?_ fun ⟨k, s, hk, s0, s1, he⟩ => ?_
             · cbv
               repeat' first | (refine Stp.mk ?_; cbv) | (refine Gen.mk fun r hr => ?_; (try simp only [Dat.ok, Dat.dec, Leaf.ok, Leaf.val, Span.eta, Set.eta, Task.eta, Done.eta, Late.eta, val_sl, val_nil] at hr); cbv) | exact trivial | rfl | refine Both.mk ?_ ?_ | (refine Imp.mk fun h => ?_; (try dsimp only at h); (try simp only [nc, Int.toNat_natCast, Bool.not_eq_true', Bool.not_eq_false', decide_eq_true_eq, decide_eq_false_iff_not, beq_iff_eq, beq_eq_false_iff_ne, ba_inj, bne_iff_ne, ne_eq, Bool.and_eq_true, Bool.or_eq_true, Bool.and_eq_false_iff, Bool.or_eq_false_iff, Int.not_le, Int.not_lt, Nat.not_le, Nat.not_lt] at h); (try simp only [nc] at h)) | refine Ob.mk ?_ ?_ | refine Chk.mk (by kernel_rfl) ?_ | refine Eq'.mk ?_ | (refine AllN.mk fun i hi => ?_; cbv) | (refine AllS.mk fun r hr => ?_; (try simp only [Dat.ok, Dat.dec, Leaf.ok, Leaf.val, Span.eta, Set.eta, Task.eta, Done.eta, Late.eta, val_sl] at hr); cbv)
             · cbv
               repeat' first | (refine Stp.mk ?_; cbv) | (refine Gen.mk fun r hr => ?_; (try simp only [Dat.ok, Dat.dec, Leaf.ok, Leaf.val, Span.eta, Set.eta, Task.eta, Done.eta, Late.eta, val_sl, val_nil] at hr); cbv) | exact trivial | rfl | refine Both.mk ?_ ?_ | (refine Imp.mk fun h => ?_; (try dsimp only at h); (try simp only [nc, Int.toNat_natCast, Bool.not_eq_true', Bool.not_eq_false', decide_eq_true_eq, decide_eq_false_iff_not, beq_iff_eq, beq_eq_false_iff_ne, ba_inj, bne_iff_ne, ne_eq, Bool.and_eq_true, Bool.or_eq_true, Bool.and_eq_false_iff, Bool.or_eq_false_iff, Int.not_le, Int.not_lt, Nat.not_le, Nat.not_lt] at h); (try simp only [nc] at h)) | refine Ob.mk ?_ ?_ | refine Chk.mk (by kernel_rfl) ?_ | refine Eq'.mk ?_ | (refine AllN.mk fun i hi => ?_; cbv) | (refine AllS.mk fun r hr => ?_; (try simp only [Dat.ok, Dat.dec, Leaf.ok, Leaf.val, Span.eta, Set.eta, Task.eta, Done.eta, Late.eta, val_sl] at hr); cbv)
             · cbv
               repeat' first | (show Stp _; exfalso; first | omega | (exact h ‹_›) | (exact absurd ‹_› h) | (exact Bool.false_ne_true (h.symm.trans (show _ = true by assumption)))) | (refine Stp.mk ?_; cbv) | (refine Gen.mk fun r hr => ?_; (try simp only [Dat.ok, Dat.dec, Leaf.ok, Leaf.val, Span.eta, Set.eta, Task.eta, Done.eta, Late.eta, val_sl, val_nil] at hr); cbv) | exact trivial | rfl | refine Both.mk ?_ ?_ | (refine Imp.mk fun h => ?_; (try dsimp only at h); (try simp only [nc, Int.toNat_natCast, Bool.not_eq_true', Bool.not_eq_false', decide_eq_true_eq, decide_eq_false_iff_not, beq_iff_eq, beq_eq_false_iff_ne, ba_inj, bne_iff_ne, ne_eq, Bool.and_eq_true, Bool.or_eq_true, Bool.and_eq_false_iff, Bool.or_eq_false_iff, Int.not_le, Int.not_lt, Nat.not_le, Nat.not_lt] at h); (try simp only [nc] at h)) | refine Ob.mk ?_ ?_ | refine Chk.mk (by kernel_rfl) ?_ | refine Eq'.mk ?_ | (refine AllN.mk fun i hi => ?_; cbv) | (refine AllS.mk fun r hr => ?_; (try simp only [Dat.ok, Dat.dec, Leaf.ok, Leaf.val, Span.eta, Set.eta, Task.eta, Done.eta, Late.eta, val_sl] at hr); cbv)
               all_goals ((try dsimp only at *); (try simp only [nc, Int.toNat_natCast, Bool.not_eq_true', Bool.not_eq_false', decide_eq_true_eq, decide_eq_false_iff_not, beq_iff_eq, beq_eq_false_iff_ne, ba_inj, bne_iff_ne, ne_eq, Bool.and_eq_true, Bool.or_eq_true, Bool.and_eq_false_iff, Bool.or_eq_false_iff, Int.not_le, Int.not_lt, Nat.not_le, Nat.not_lt] at *); (try simp only [nc] at *))
               all_goals try rw [nc] at *
               all_goals try (have ho := okT_iff.1 (tk_get (show k < l.length by omega) a3); have hq := quo_bd (n := n) (e := (l.getD k Dat.d0).every) (g := (l.getD k Dat.d0).long) (by omega) (by omega) (by omega) (by omega) (by omega); have hq2 : (l.getD k Dat.d0).long * (n.tdiv (l.getD k Dat.d0).every + 1) = n.tdiv (l.getD k Dat.d0).every * (l.getD k Dat.d0).long + (l.getD k Dat.d0).long := (by rw [Int.mul_add, Int.mul_comm, Int.mul_one]))
               all_goals first
                 | omega
                 | (unfold InR; omega)
                 | (refine ⟨by omega, ?_⟩; unfold InR; omega)
                 | (have hk2 : k < l.length := by omega
                    refine ⟨⟨k + 1, s + (l.getD k Dat.d0).long * (n.tdiv (l.getD k Dat.d0).every + 1), by omega, by omega, by omega, by rw [he, most_drop _ hk2]; omega⟩, ?_, ?_, rfl, by (try dsimp only); omega⟩
                    · cbv
                      repeat' first | (refine Stp.mk ?_; cbv) | (refine Gen.mk fun r hr => ?_; (try simp only [Dat.ok, Dat.dec, Leaf.ok, Leaf.val, Span.eta, Set.eta, Task.eta, Done.eta, Late.eta, val_sl, val_nil] at hr); cbv) | exact trivial | rfl | refine Both.mk ?_ ?_ | (refine Imp.mk fun h => ?_; (try dsimp only at h); (try simp only [nc, Int.toNat_natCast, Bool.not_eq_true', Bool.not_eq_false', decide_eq_true_eq, decide_eq_false_iff_not, beq_iff_eq, beq_eq_false_iff_ne, ba_inj, bne_iff_ne, ne_eq, Bool.and_eq_true, Bool.or_eq_true, Bool.and_eq_false_iff, Bool.or_eq_false_iff, Int.not_le, Int.not_lt, Nat.not_le, Nat.not_lt] at h); (try simp only [nc] at h)) | refine Ob.mk ?_ ?_ | refine Chk.mk (by kernel_rfl) ?_ | refine Eq'.mk ?_ | (refine AllN.mk fun i hi => ?_; cbv) | (refine AllS.mk fun r hr => ?_; (try simp only [Dat.ok, Dat.dec, Leaf.ok, Leaf.val, Span.eta, Set.eta, Task.eta, Done.eta, Late.eta, val_sl] at hr); cbv)
                    · cbv
                      repeat' first | (refine Stp.mk ?_; cbv) | (refine Gen.mk fun r hr => ?_; (try simp only [Dat.ok, Dat.dec, Leaf.ok, Leaf.val, Span.eta, Set.eta, Task.eta, Done.eta, Late.eta, val_sl, val_nil] at hr); cbv) | exact trivial | rfl | refine Both.mk ?_ ?_ | (refine Imp.mk fun h => ?_; (try dsimp only at h); (try simp only [nc, Int.toNat_natCast, Bool.not_eq_true', Bool.not_eq_false', decide_eq_true_eq, decide_eq_false_iff_not, beq_iff_eq, beq_eq_false_iff_ne, ba_inj, bne_iff_ne, ne_eq, Bool.and_eq_true, Bool.or_eq_true, Bool.and_eq_false_iff, Bool.or_eq_false_iff, Int.not_le, Int.not_lt, Nat.not_le, Nat.not_lt] at h); (try simp only [nc] at h)) | refine Ob.mk ?_ ?_ | refine Chk.mk (by kernel_rfl) ?_ | refine Eq'.mk ?_ | (refine AllN.mk fun i hi => ?_; cbv) | (refine AllS.mk fun r hr => ?_; (try simp only [Dat.ok, Dat.dec, Leaf.ok, Leaf.val, Span.eta, Set.eta, Task.eta, Done.eta, Late.eta, val_sl] at hr); cbv))
                 | (have e : mostS n l = s := (by rw [he, List.drop_eq_nil_of_le (by omega), mostS, Int.add_zero])
                    rw [e] at hmm
                    first
                      | exact fin (decide_eq_true (by omega))
                      | (exfalso; omega)
                      | fail)
                 | fail)
section
open Go.ChangeShapes Go.WideShapes Go.ChangeAt Go.RowKit Go.Joins Go.Deep
set_option linter.unusedVariables false
theorem tdemand_own : ownKnob Try.prog.godebug = none := by kernel_rfl
theorem tdemand_laidOut : laidOutB Try.prog = true := by kernel_rfl
theorem tdemand_readOk {ts : Array TypeId} (h : ts.toList.all (fun t => Try.prog.readableRec t && decide (t < Try.prog.types.size)) = true) : ∀ t ∈ ts.toList, Try.prog.readableRec t = true ∧ t < Try.prog.types.size := fun t ht => by
  have := List.all_eq_true.1 h t ht
  simpa using this
mutual
theorem tdemand_bD {H : Type} : ∀ d : DataW H, Rows.uptoBulk d = bulkD d
  | .lit l => by cases l <;> simp [Rows.uptoBulk, bulkD]
  | .nil => by simp [Rows.uptoBulk, bulkD]
  | .ptr d => by simp [Rows.uptoBulk, bulkD, tdemand_bD d]
  | .slice a b => by simp [Rows.uptoBulk, bulkD, tdemand_bL a, tdemand_bL b]
  | .agg a => by simp [Rows.uptoBulk, bulkD, tdemand_bL a]
  | .iface _ d => by simp [Rows.uptoBulk, bulkD, tdemand_bD d]
  | .map e => by simp [Rows.uptoBulk, bulkD, tdemand_bE e]
  | .held _ => by simp [Rows.uptoBulk, bulkD]
theorem tdemand_bL {H : Type} : ∀ d : List (DataW H), Rows.uptoBulkAll d = bulkL d
  | [] => by simp [Rows.uptoBulkAll, bulkL]
  | d :: r => by simp [Rows.uptoBulkAll, bulkL, tdemand_bD d, tdemand_bL r]
theorem tdemand_bE {H : Type} : ∀ d : List (Lit × DataW H), Rows.uptoBulkEntries d = bulkE d
  | [] => by simp [Rows.uptoBulkEntries, bulkE]
  | d :: r => by simp [Rows.uptoBulkEntries, bulkE, tdemand_bX d, tdemand_bE r]
theorem tdemand_bX {H : Type} : ∀ d : Lit × DataW H, Rows.uptoBulkEntry d = bulkX d
  | (l, d) => by cases l <;> simp [Rows.uptoBulkEntry, bulkX, tdemand_bD d]
end
set_option maxRecDepth 100000 in
theorem tdemand_lifted (os : Os) (started : os.Started) (H : Type) (enc : TypeId × Value → H) (F : Stop.Interp) :
    ReturnsInHanded {} Try.checked os 13 .any ((Rows.OpenSpec.upto Rows.taskDemandSpec).pre6 enc Try.prog Try.f13 Rows.taskDemandUptoRow.domain false) (((Rows.OpenSpec.upto Rows.taskDemandSpec).at F).post enc Try.prog Try.f13 false true false false) := by
  refine returnsInHanded_of_cond (C := Try.checked) (s := Rows.OpenSpec.upto Rows.taskDemandSpec) (k := Rows.uptoSmall) rfl tdemand_own started (by kernel_rfl) Try.func13
    (OpenSpec.witness (enc := enc) (C := Try.checked) (s := Rows.OpenSpec.upto Rows.taskDemandSpec) (k := Rows.uptoSmall) rfl false ⟨#[], #[.slice none 0 0, .slice none 0 0, .int .i64 0, .int .i64 0], []⟩ 8 (by kernel_rfl) (by kernel_rfl) (by kernel_rfl)
      (x := ([.nil, .nil, .lit (.int .i64 0), .lit (.int .i64 0)], [], [])) (by kernel_rfl) rfl (by kernel_rfl)) ?_
  intro W base args ds gs before hval0 hW _ hk _
  show Calls Try.prog 13 args W fun e W' => ∃ v, e = .returned v ∧ Rows.taskDemandSpec.post enc Try.prog Try.f13 false true false false W args v W'
  have hval : ∀ (j : Nat) t v, Try.f13.params[j]? = some t → args[j]? = some v → Value.okWide Try.prog W .any base t v := hval0
  have hW' := hW
  have hlt := hW.lt
  obtain ⟨p, q, hA0, hV, rfl, hfz, hnd⟩ := hW
  have hA : DataW.TrodAll enc Try.prog W 0 (fun _ => true) true Try.f13.params.toList args.toList ds p := hA0
  have hA1 := hA
  rw [Try.params13] at hA hval
  obtain ⟨v0, vs0, d0, ds0, p0, q0, hargs, rfl, rfl, h0, r0⟩ := trodAll_cons hA
  obtain ⟨v1, vs1, d1, ds1, p1, q1, rfl, rfl, rfl, h1, r1⟩ := trodAll_cons r0
  obtain ⟨v2, vs2, d2, ds2, p2, q2, rfl, rfl, rfl, h2, r2⟩ := trodAll_cons r1
  obtain ⟨v3, vs3, d3, ds3, p3, q3, rfl, rfl, rfl, h3, r3⟩ := trodAll_cons r2
  obtain ⟨rfl, rfl, rfl⟩ := trodAll_nil r3
  obtain rfl : args = #[v0, v1, v2, v3] := by cases args; simp_all
  obtain ⟨rfl, rfl⟩ := trodVars_none hV
  obtain ⟨z0, z'0, z''0, rfl⟩ := okWide_slice Try.underlying22 (hval 0 22 v0 rfl rfl)
  obtain ⟨y0, u0, b0, e0⟩ := arg_leaf (α := (List Task)) (opn_slice Try.underlying22 (by kernel_rfl) (by decide) opn_Task) rfl h0
  obtain ⟨z1, z'1, z''1, rfl⟩ := okWide_slice Try.underlying22 (hval 1 22 v1 rfl rfl)
  obtain ⟨y1, u1, b1, e1⟩ := arg_leaf (α := (List Task)) (opn_slice Try.underlying22 (by kernel_rfl) (by decide) opn_Task) rfl h1
  obtain ⟨z2, rfl⟩ := okWide_int Try.underlying3 (hval 2 3 v2 rfl rfl)
  obtain ⟨y2, u2, b2, e2⟩ := arg_leaf (α := Int) (opn_int Try.underlying3) rfl h2
  obtain ⟨z3, rfl⟩ := okWide_int Try.underlying3 (hval 3 3 v3 rfl rfl)
  obtain ⟨y3, u3, b3, e3⟩ := arg_leaf (α := Int) (opn_int Try.underlying3) rfl h3
  have hB : Siz.bulk y0 + Siz.bulk y1 + Siz.bulk y2 + Siz.bulk y3 ≤ 1048576 := by
    have h := of_decide_eq_true hk
    rw [tdemand_bL] at h
    simp only [List.append_nil, bulkL] at h
    omega
  have hR := repL_cons (M := fun _ => False) (β := fun _ => none) (cp := fun _ => 0) (.c e0) (repL_cons (M := fun _ => False) (β := fun _ => none) (cp := fun _ => 0) (.c e1) (repL_cons (M := fun _ => False) (β := fun _ => none) (cp := fun _ => 0) (.c e2) (repL_cons (M := fun _ => False) (β := fun _ => none) (cp := fun _ => 0) (.c e3) (repL_nil))))
  refine (law_callsA (tdemand_vc y0 y1 y2 y3 u0 u1 u2 u3 hB) hR).mono fun e W' ⟨he, bel⟩ => ?_
  subst he
  exact ⟨_, rfl, _, _, _, [], _, [], hW', trodAll_mk1 (shut_bool Try.underlying4 _), trodAll_below tdemand_laidOut bel (tdemand_readOk (by kernel_rfl)) (fun x hx => hlt x (List.mem_append_left _ hx)) hA1, rfl, bel.frame _, fun h => by cases h⟩
theorem TaskDemand_proved : Rows.TaskDemandUptoSaid :=
  OpenClaim.holds_of_cond 13 Try.f13 rfl rfl rfl rfl rfl rfl rfl ⟨rfl, rfl, rfl, rfl, rfl⟩ rfl rfl rfl rfl rfl (by kernel_rfl) Try.func13 (by kernel_rfl)
    (of_decide_eq_true (by kernel_rfl)) (by unfold Func.isWrapper; first | (rw [if_pos (by decide +kernel)]; kernel_rfl) | (rw [if_neg (by decide +kernel)]; exact ⟨rfl, rfl⟩))
    (fun os started H enc _ F => tdemand_lifted os started H enc F)
end

end Go.Proofs.Ytabchkekhpmpiaa
