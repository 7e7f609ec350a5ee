/- Of any two who are right, what they come to is no farther apart than half of what was measured by those who are right, or one more; for all inputs. -/
import Derived.Test.YtpofgnocliaahaaAbsG4
import Derived.Test.YtpofgnocliaahaaMedH
import Derived.Test.YtpofgnocliaahaaMRound
import Derived.Test.YtpofgnocliaahaaMedianL
import Derived.Test.YtpofgnocliaahaaMinMax
set_option linter.all false
namespace Go.Proofs.Ytpofgnocliaahaa
open Go Go.Abs

noncomputable def cMH : FuncId → Con := fun f => match f with
  | 12 => pureCon clInt_C
  | 9 => pureCon (detPC mlives_D)
  | 14 => pureCon (detPC mxI_D)
  | 13 => pureCon (detPC mnI_D)
  | 16 => pureConB round_C
  | _ => fun _ _ _ => Bad 1001
theorem cMH_ok : ConOk Try.prog cMH := fun f A H K h => by
  unfold cMH at h
  split at h
  · exact ⟨⟨Try.f12, Try.func12, by kernel_rfl, by kernel_rfl⟩, pureCon_ok clInt_ok h⟩
  · exact ⟨⟨Try.f9, Try.func9, by kernel_rfl, by kernel_rfl⟩, pureCon_ok mlives_ok h⟩
  · exact ⟨⟨Try.f14, Try.func14, by kernel_rfl, by kernel_rfl⟩, pureCon_ok mxI_ok h⟩
  · exact ⟨⟨Try.f13, Try.func13, by kernel_rfl, by kernel_rfl⟩, pureCon_ok mnI_ok h⟩
  · exact ⟨⟨Try.f16, Try.func16, by kernel_rfl, by kernel_rfl⟩, pureConB_ok round_ok h⟩
  · cases h
def dMH : FuncId → Option Dt := fun f => match f with
  | _ => none
theorem dMH_ok : DetOk Try.prog dMH := fun f d h => by
  unfold dMH at h
  split at h
  · cases h
theorem round_two {a b : List Int} {f : Int} (h : (roundV [a, b] f).2 = 0) : (midV a f).2.2 = 0 ∧ (midV b f).2.2 = 0 ∧ (roundV [a, b] f).1 = [(midV a f).1, (midV b f).1] := by
  have e : roundV [a, b] f = match [a, b].find? (fun x => decide (¬ (midV x f).2.2 = 0)) with
    | some x => ([], (midV x f).2.2)
    | none => ([a, b].map fun x => (midV x f).1, 0) := if_neg (show ¬ 64 < 2 by decide)
  cases hq : [a, b].find? (fun x => decide (¬ (midV x f).2.2 = 0)) with
  | some x =>
    rw [e, hq] at h
    have := List.find?_some hq
    exact absurd h (of_decide_eq_true this)
  | none =>
    rw [List.find?_eq_none] at hq
    have h1 := hq a (by simp)
    have h2 := hq b (by simp)
    refine ⟨by simpa using h1, by simpa using h2, ?_⟩
    rw [e, List.find?_eq_none.2 hq]
    rfl
theorem two_val {n1 n2 : Nat} {f1 f2 : Th Nat → List AV} : slV (α := List Int) (.sl 1 (fun _ => 2) fun i => [selA 0 [.sl 1 (fun _ => n1) f1, .sl 1 (fun _ => n2) f2] i]) = [slV (.sl 1 (fun _ => n1) f1), slV (.sl 1 (fun _ => n2) f2)] := rfl
theorem two_ok {n1 n2 : Nat} {f1 f2 : Th Nat → List AV} (h1 : slOk (α := Int) (.sl 1 (fun _ => n1) f1)) (h2 : slOk (α := Int) (.sl 1 (fun _ => n2) f2)) : Leaf.ok (List (List Int)) (.sl 1 (fun _ => 2) fun i => [selA 0 [.sl 1 (fun _ => n1) f1, .sl 1 (fun _ => n2) f2] i]) :=
  ⟨rfl, fun i _ => ⟨fun _ => h1, fun _ => h2⟩⟩
theorem mid_bd {r a : List Int} {f : Int} (h : (midV (r ++ a) f).2.2 = 0) (hr : 0 < r.length) : -1099511627776 ≤ minL r ∧ maxL r ≤ 1099511627776 ∧ minL r ≤ maxL r ∧ 0 ≤ f ∧ f ≤ 20 := by
  obtain ⟨q1, q2, q3, q4, q5⟩ := mid_tell h
  have hw : ∀ y ∈ r, -1099511627776 ≤ y ∧ y ≤ 1099511627776 := fun y hy => wide_of (by
    have := List.any_eq_false.1 q4 y (List.mem_append_left _ hy)
    simpa using this)
  exact ⟨(hw _ (minL_mem hr)).1, (hw _ (maxL_mem hr)).2, minL_le _ (maxL_mem hr), q2, q3⟩
set_option maxRecDepth 100000 in
set_option maxHeartbeats 4000000 in
theorem mhalves_vc (right : (List Int)) (first : (List Int)) (second : (List Int)) (faults : Int) (fit_right : Siz.fit right) (fit_first : Siz.fit first) (fit_second : Siz.fit second) (fit_faults : Siz.fit faults) (hB : Siz.bulk right + Siz.bulk first + Siz.bulk second + Siz.bulk faults ≤ 1048576) : FnOk Try.prog 6 [Leaf.av fun _ => right, Leaf.av fun _ => first, Leaf.av fun _ => second, .i .i64 fun _ => faults] [] (outA (.bc true) []) := by
  refine fn_ok envOk zl cMH_ok (draws_ok envOk zl dMH_ok mixed) (keep := [0, 1, 2, 3, 8, 9, 10, 11, 27, 63]) Try.func6 rfl ?_
  have fin := @fin_b
  have finc := @fin_t
  have hl : right.length ≤ 1048576 ∧ first.length ≤ 1048576 ∧ second.length ≤ 1048576 := by
    have h1 := bulk_len (α := Int) (fun _ => Nat.le_add_left _ _) right
    have h2 := bulk_len (α := Int) (fun _ => Nat.le_add_left _ _) first
    have h3 := bulk_len (α := Int) (fun _ => Nat.le_add_left _ _) second
    simp only [Siz.bulk] at hB h1 h2 h3
    omega
  generalize outA (.bc true) [] = K at fin finc
  cbv
  repeat' first | (show Stp _; exfalso; first | omega | (exact h ‹_›) | (exact absurd ‹_› h) | (exact Bool.false_ne_true (h.symm.trans (show _ = true by assumption)))) | (refine Stp.mk ?_; cbv) | (refine Gen.mk fun r hr => ?_; (try simp only [Dat.ok, Dat.dec, Leaf.ok, Leaf.val, val_sl, val_nil] at hr); cbv) | exact trivial | rfl | refine Both.mk ?_ ?_ | (refine Imp.mk fun h => ?_; (try dsimp only at h); (try simp only [nc, Int.toNat_natCast, Bool.not_eq_true', Bool.not_eq_false', decide_eq_true_eq, decide_eq_false_iff_not, beq_iff_eq, beq_eq_false_iff_ne, ba_inj, bne_iff_ne, ne_eq, Bool.and_eq_true, Bool.or_eq_true, Bool.and_eq_false_iff, Bool.or_eq_false_iff, Int.not_le, Int.not_lt, Nat.not_le, Nat.not_lt] at h); (try simp only [nc] at h)) | refine Ob.mk ?_ ?_ | refine Chk.mk (by kernel_rfl) ?_ | refine Eq'.mk ?_ | (refine AllN.mk fun i hi => ?_; cbv) | (refine AllC.mk fun c hc hcm => ?_; (try dsimp only at hc); cbv) | (refine AllS.mk fun r hr => ?_; (try simp only [Dat.ok, Dat.dec, Leaf.ok, Leaf.val, val_sl] at hr); cbv)
  all_goals ((try dsimp only at *); (try simp only [nc, Int.toNat_natCast, Bool.not_eq_true', Bool.not_eq_false', decide_eq_true_eq, decide_eq_false_iff_not, beq_iff_eq, beq_eq_false_iff_ne, ba_inj, bne_iff_ne, ne_eq, Bool.and_eq_true, Bool.or_eq_true, Bool.and_eq_false_iff, Bool.or_eq_false_iff, Int.not_le, Int.not_lt, Nat.not_le, Nat.not_lt] at *); (try simp only [nc] at *))
  all_goals try simp only [Dat.dec, Leaf.val, val_sl] at *
  all_goals repeat (rename (_ = right) => q0; have q1 := q0.symm; clear q0; subst q1)
  all_goals first
    | exact finc
    | exact Nat.le_refl _
    | exact ⟨⟨rfl, fun i _ => Dat.hok _⟩, show _ ≤ _ by omega⟩
    | exact ⟨⟨rfl, fun i _ => Dat.hok _⟩, by omega, show _ ≤ _ by omega⟩
    | exact ⟨Nat.le_refl _, trivial, by omega, by omega, Nat.le_refl _⟩
    | skip
  all_goals have ev := two_val (n1 := right.length + first.length) (n2 := right.length + second.length) (f1 := fun j => rowL 1 (fun x => decide (j () < right.length)) (Dat.enc fun x => right.getD (j ()) Dat.d0) (Dat.enc fun x => first.getD (j () - right.length) Dat.d0)) (f2 := fun j => rowL 1 (fun x => decide (j () < right.length)) (Dat.enc fun x => right.getD (j ()) Dat.d0) (Dat.enc fun x => second.getD (j () - right.length) Dat.d0))
  all_goals rw [val_app right first 1 _ _ rfl rfl rfl, val_app right second 1 _ _ rfl rfl rfl] at ev
  all_goals try rw [ev]
  all_goals first
    | (refine ⟨⟨two_ok ⟨rfl, fun i _ => ok_row rfl (Dat.hok _) (Dat.hok _)⟩ ⟨rfl, fun i _ => ok_row rfl (Dat.hok _) (Dat.hok _)⟩, show _ ≤ _ by decide, fun k => ?_⟩⟩
       done)
    | (refine ⟨two_ok ⟨rfl, fun i _ => ok_row rfl (Dat.hok _) (Dat.hok _)⟩ ⟨rfl, fun i _ => ok_row rfl (Dat.hok _) (Dat.hok _)⟩, ⟨show 2 ≤ 1048576 by decide, fun k => ?_⟩⟩
       rcases k with _ | _ | k
       · show (right ++ first).length ≤ _
         rw [List.length_append]; omega
       · show (right ++ second).length ≤ _
         rw [List.length_append]; omega
       · exact Nat.zero_le _)
    | skip
  all_goals (rename (_ = roundV _ _) => hr)
  all_goals rw [ev] at hr
  all_goals (rename List Int × Int => r)
  all_goals have hr0 : (roundV [right ++ first, right ++ second] faults).2 = 0 := (by rw [← hr]; assumption)
  all_goals obtain ⟨m1, m2, m3⟩ := round_two hr0
  all_goals rw [← hr] at m3
  all_goals obtain ⟨d1, d2, d3, d4, d5⟩ := mid_bd m1 (show 0 < right.length by omega)
  all_goals have hlen : r.1.length = 2 := (by rw [m3]; rfl)
  all_goals first
    | omega
    | (unfold InR; omega)
    | (refine fin ?_; show (_ == _) = true; rw [hlen]; rfl)
    | exact ⟨by omega, by omega⟩
    | (rw [hlen]; decide)
    | skip
  all_goals obtain ⟨g1, g2, g3⟩ := mid_halves m1 m2 (show first.length = second.length by omega) (show (first.length : Int) ≤ faults by omega) (show 3 * faults < (right.length : Int) + first.length by omega)
  all_goals obtain ⟨t1, t2, t3, t4⟩ := tdiv2 (show 0 ≤ maxL right - minL right + 1 by omega)
  all_goals have v0 : r.1.getD (Int.toNat 0) Dat.d0 = (midV (right ++ first) faults).1 := (by rw [m3]; rfl)
  all_goals have v1 : r.1.getD (Int.toNat 1) Dat.d0 = (midV (right ++ second) faults).1 := (by rw [m3]; rfl)
  all_goals first
    | (rw [v0, v1]; unfold InR; omega)
    | exact ⟨by decide, by unfold InR; omega⟩
    | (refine fin ?_
       rw [v0, v1]
       refine decide_eq_true ?_
       split <;> assumption)
    | fail
section
open Go.ChangeShapes Go.WideShapes Go.ChangeAt Go.RowKit Go.Joins Go.Deep
set_option linter.unusedVariables false
theorem mhalves_own : ownKnob Try.prog.godebug = none := by kernel_rfl
theorem mhalves_laidOut : laidOutB Try.prog = true := by kernel_rfl
theorem mhalves_readOk {ts : Array TypeId} (h : ts.toList.all (fun t => Try.prog.readableRec t && decide (t < Try.prog.types.size)) = true) : ∀ t ∈ ts.toList, Try.prog.readableRec t = true ∧ t < Try.prog.types.size := fun t ht => by
  have := List.all_eq_true.1 h t ht
  simpa using this
mutual
theorem mhalves_bD {H : Type} : ∀ d : DataW H, Rows.uptoBulk d = bulkD d
  | .lit l => by cases l <;> simp [Rows.uptoBulk, bulkD]
  | .nil => by simp [Rows.uptoBulk, bulkD]
  | .ptr d => by simp [Rows.uptoBulk, bulkD, mhalves_bD d]
  | .slice a b => by simp [Rows.uptoBulk, bulkD, mhalves_bL a, mhalves_bL b]
  | .agg a => by simp [Rows.uptoBulk, bulkD, mhalves_bL a]
  | .iface _ d => by simp [Rows.uptoBulk, bulkD, mhalves_bD d]
  | .map e => by simp [Rows.uptoBulk, bulkD, mhalves_bE e]
  | .held _ => by simp [Rows.uptoBulk, bulkD]
theorem mhalves_bL {H : Type} : ∀ d : List (DataW H), Rows.uptoBulkAll d = bulkL d
  | [] => by simp [Rows.uptoBulkAll, bulkL]
  | d :: r => by simp [Rows.uptoBulkAll, bulkL, mhalves_bD d, mhalves_bL r]
theorem mhalves_bE {H : Type} : ∀ d : List (Lit × DataW H), Rows.uptoBulkEntries d = bulkE d
  | [] => by simp [Rows.uptoBulkEntries, bulkE]
  | d :: r => by simp [Rows.uptoBulkEntries, bulkE, mhalves_bX d, mhalves_bE r]
theorem mhalves_bX {H : Type} : ∀ d : Lit × DataW H, Rows.uptoBulkEntry d = bulkX d
  | (l, d) => by cases l <;> simp [Rows.uptoBulkEntry, bulkX, mhalves_bD d]
end
set_option maxRecDepth 100000 in
theorem mhalves_lifted (os : Os) (started : os.Started) (H : Type) (enc : TypeId × Value → H) (F : Stop.Interp) :
    ReturnsInHanded {} Try.checked os 6 .any ((Rows.OpenSpec.upto Rows.medianHalvesSpec).pre6 enc Try.prog Try.f6 Rows.medianHalvesUptoRow.domain false) (((Rows.OpenSpec.upto Rows.medianHalvesSpec).at F).post enc Try.prog Try.f6 false true false false) := by
  refine returnsInHanded_of_cond (C := Try.checked) (s := Rows.OpenSpec.upto Rows.medianHalvesSpec) (k := Rows.uptoSmall) rfl mhalves_own started (by kernel_rfl) Try.func6
    (OpenSpec.witness (enc := enc) (C := Try.checked) (s := Rows.OpenSpec.upto Rows.medianHalvesSpec) (k := Rows.uptoSmall) rfl false ⟨#[], #[.slice none 0 0, .slice none 0 0, .slice none 0 0, .int .i64 0], []⟩ 8 (by kernel_rfl) (by kernel_rfl) (by kernel_rfl)
      (x := ([.nil, .nil, .nil, .lit (.int .i64 0)], [], [])) (by kernel_rfl) rfl (by kernel_rfl)) ?_
  intro W base args ds gs before hval0 hW _ hk _
  show Calls Try.prog 6 args W fun e W' => ∃ v, e = .returned v ∧ Rows.medianHalvesSpec.post enc Try.prog Try.f6 false true false false W args v W'
  have hval : ∀ (j : Nat) t v, Try.f6.params[j]? = some t → args[j]? = some v → Value.okWide Try.prog W .any base t v := hval0
  have hW' := hW
  have hlt := hW.lt
  obtain ⟨p, q, hA0, hV, rfl, hfz, hnd⟩ := hW
  have hA : DataW.TrodAll enc Try.prog W 0 (fun _ => true) true Try.f6.params.toList args.toList ds p := hA0
  have hA1 := hA
  rw [Try.params6] at hA hval
  obtain ⟨v0, vs0, d0, ds0, p0, q0, hargs, rfl, rfl, h0, r0⟩ := trodAll_cons hA
  obtain ⟨v1, vs1, d1, ds1, p1, q1, rfl, rfl, rfl, h1, r1⟩ := trodAll_cons r0
  obtain ⟨v2, vs2, d2, ds2, p2, q2, rfl, rfl, rfl, h2, r2⟩ := trodAll_cons r1
  obtain ⟨v3, vs3, d3, ds3, p3, q3, rfl, rfl, rfl, h3, r3⟩ := trodAll_cons r2
  obtain ⟨rfl, rfl, rfl⟩ := trodAll_nil r3
  obtain rfl : args = #[v0, v1, v2, v3] := by cases args; simp_all
  obtain ⟨rfl, rfl⟩ := trodVars_none hV
  obtain ⟨z0, z'0, z''0, rfl⟩ := okWide_slice Try.underlying29 (hval 0 29 v0 rfl rfl)
  obtain ⟨y0, u0, b0, e0⟩ := arg_leaf (α := (List Int)) (opn_slice Try.underlying29 (by kernel_rfl) (by decide) (opn_int Try.underlying3)) rfl h0
  obtain ⟨z1, z'1, z''1, rfl⟩ := okWide_slice Try.underlying29 (hval 1 29 v1 rfl rfl)
  obtain ⟨y1, u1, b1, e1⟩ := arg_leaf (α := (List Int)) (opn_slice Try.underlying29 (by kernel_rfl) (by decide) (opn_int Try.underlying3)) rfl h1
  obtain ⟨z2, z'2, z''2, rfl⟩ := okWide_slice Try.underlying29 (hval 2 29 v2 rfl rfl)
  obtain ⟨y2, u2, b2, e2⟩ := arg_leaf (α := (List Int)) (opn_slice Try.underlying29 (by kernel_rfl) (by decide) (opn_int Try.underlying3)) rfl h2
  obtain ⟨z3, rfl⟩ := okWide_int Try.underlying3 (hval 3 3 v3 rfl rfl)
  obtain ⟨y3, u3, b3, e3⟩ := arg_leaf (α := Int) (opn_int Try.underlying3) rfl h3
  have hB : Siz.bulk y0 + Siz.bulk y1 + Siz.bulk y2 + Siz.bulk y3 ≤ 1048576 := by
    have h := of_decide_eq_true hk
    rw [mhalves_bL] at h
    simp only [List.append_nil, bulkL] at h
    omega
  have hR := repL_cons (M := fun _ => False) (β := fun _ => none) (cp := fun _ => 0) (.c e0) (repL_cons (M := fun _ => False) (β := fun _ => none) (cp := fun _ => 0) (.c e1) (repL_cons (M := fun _ => False) (β := fun _ => none) (cp := fun _ => 0) (.c e2) (repL_cons (M := fun _ => False) (β := fun _ => none) (cp := fun _ => 0) (.c e3) (repL_nil))))
  refine (law_callsA (mhalves_vc y0 y1 y2 y3 u0 u1 u2 u3 hB) hR).mono fun e W' ⟨he, bel⟩ => ?_
  subst he
  exact ⟨_, rfl, _, _, _, [], _, [], hW', trodAll_mk1 (shut_bool Try.underlying4 _), trodAll_below mhalves_laidOut bel (mhalves_readOk (by kernel_rfl)) (fun x hx => hlt x (List.mem_append_left _ hx)) hA1, rfl, bel.frame _, fun h => by cases h⟩
theorem MedianHalves_proved : Rows.MedianHalvesUptoSaid :=
  OpenClaim.holds_of_cond 6 Try.f6 rfl rfl rfl rfl rfl rfl rfl ⟨rfl, rfl, rfl, rfl, rfl⟩ rfl rfl rfl rfl rfl (by kernel_rfl) Try.func6 (by kernel_rfl)
    (of_decide_eq_true (by kernel_rfl)) (by unfold Func.isWrapper; first | (rw [if_pos (by decide +kernel)]; kernel_rfl) | (rw [if_neg (by decide +kernel)]; exact ⟨rfl, rfl⟩))
    (fun os started H enc _ F => mhalves_lifted os started H enc F)
end

end Go.Proofs.Ytpofgnocliaahaa
