/- Bezout: as often as is told of both. -/
import Derived.Test.YtobonmoinjkfbaaNumR
set_option linter.all false
namespace Go.Proofs.Ytobonmoinjkfbaa
open Go Go.Abs

noncomputable def cNB : FuncId → Con := fun f => match f with
  | 15 => pureCon (detPC partsN_D)
  | 13 => pureCon (detPC GcdN_D)
  | 14 => pureCon (detPC nlives_D)
  | _ => fun _ _ _ => Bad 1001
theorem cNB_ok : ConOk Try.prog cNB := fun f A H K h => by
  unfold cNB at h
  split at h
  · exact ⟨⟨Try.f15, Try.func15, by kernel_rfl, by kernel_rfl⟩, pureCon_ok partsN_ok h⟩
  · exact ⟨⟨Try.f13, Try.func13, by kernel_rfl, by kernel_rfl⟩, pureCon_ok GcdN_ok h⟩
  · exact ⟨⟨Try.f14, Try.func14, by kernel_rfl, by kernel_rfl⟩, pureCon_ok nlives_ok h⟩
  · cases h
def dNB : FuncId → Option Dt := fun f => match f with
  | 15 => some (.c partsN_D)
  | 13 => some (.c GcdN_D)
  | _ => none
theorem dNB_ok : DetOk Try.prog dNB := fun f d h => by
  unfold dNB at h
  split at h
  · cases h; exact ⟨⟨Try.f15, Try.func15, by kernel_rfl, by kernel_rfl⟩, partsN_ok⟩
  · cases h; exact ⟨⟨Try.f13, Try.func13, by kernel_rfl, by kernel_rfl⟩, GcdN_ok⟩
  · cases h
set_option maxRecDepth 100000 in
set_option maxHeartbeats 4000000 in
theorem nbez_vc (a : Int) (b : Int) (less : Int) (fit_a : Siz.fit a) (fit_b : Siz.fit b) (fit_less : Siz.fit less) (hB : Siz.bulk a + Siz.bulk b + Siz.bulk less ≤ 1048576) : FnOk Try.prog 4 [.i .i64 fun _ => a, .i .i64 fun _ => b, .i .i64 fun _ => less] [] (outA (.bc true) []) := by
  refine fn_ok envOk zl cNB_ok (draws_ok envOk zl dNB_ok mixed) (keep := [0, 1, 2, 6, 7, 8, 9, 10, 11, 42, 68]) Try.func4 rfl ?_
  have fin := @fin_b
  have finc := @fin_t
  generalize outA (.bc true) [] = K at fin finc
  cbv
  repeat' first | (show Stp _; exfalso; first | omega | (exact h ‹_›) | (exact absurd ‹_› h) | (exact Bool.false_ne_true (h.symm.trans (show _ = true by assumption)))) | (refine Stp.mk ?_; cbv) | (refine Gen.mk fun r hr => ?_; (try simp only [Dat.ok, Dat.dec, Leaf.ok, Leaf.val, Act.eta, Work.eta, Locked.eta, val_sl, val_nil] at hr); cbv) | exact trivial | rfl | refine Both.mk ?_ ?_ | (refine Imp.mk fun h => ?_; (try dsimp only at h); (try simp only [nc, Int.toNat_natCast, Bool.not_eq_true', Bool.not_eq_false', decide_eq_true_eq, decide_eq_false_iff_not, beq_iff_eq, beq_eq_false_iff_ne, ba_inj, bne_iff_ne, ne_eq, Bool.and_eq_true, Bool.or_eq_true, Bool.and_eq_false_iff, Bool.or_eq_false_iff, Int.not_le, Int.not_lt, Nat.not_le, Nat.not_lt] at h); (try simp only [nc] at h)) | refine Ob.mk ?_ ?_ | refine Chk.mk (by kernel_rfl) ?_ | refine Eq'.mk ?_ | (refine AllN.mk fun i hi => ?_; cbv) | (refine AllS.mk fun r hr => ?_; (try simp only [Dat.ok, Dat.dec, Leaf.ok, Leaf.val, Act.eta, Work.eta, Locked.eta, val_sl] at hr); cbv)
  all_goals ((try dsimp only at *); (try simp only [nc, Int.toNat_natCast, Bool.not_eq_true', Bool.not_eq_false', decide_eq_true_eq, decide_eq_false_iff_not, beq_iff_eq, beq_eq_false_iff_ne, ba_inj, bne_iff_ne, ne_eq, Bool.and_eq_true, Bool.or_eq_true, Bool.and_eq_false_iff, Bool.or_eq_false_iff, Int.not_le, Int.not_lt, Nat.not_le, Nat.not_lt] at *); (try simp only [nc] at *))
  all_goals simp only [Siz.bulk] at hB
  all_goals have hp := P_ok (a := a) (b := b)
  all_goals try (have hd := G_ok (a := a) (b := b) (by assumption))
  all_goals try (have e5 := hd.2.2.2.2)
  all_goals try (have hr := hp.1 (by assumption))
  all_goals try (have hz := bez (a := a) (b := b) hr.1 (by omega) hr.2.2.1 (by omega))
  all_goals try (have hx := x_facts (a := a) (b := b) hr.1 (by omega) hr.2.2.1 (by omega))
  all_goals try (have hg := gcd_facts (a := a) (b := b) hr.1 hr.2.2.1)
  all_goals try (have hm1 := small_mul (x := xOf a b) (y := a) (by omega) (by omega) (by omega) (by omega))
  all_goals try (have ex := hz.2.1)
  all_goals first
    | exact finc
    | (exfalso; omega)
    | (have q := hp.2 (by assumption); exact fin (by rw [q.2]; rfl))
    | (exfalso; exact h (hp.2 (by assumption)).1)
    | omega
    | (unfold InR; omega)
    | (rw [ex]; unfold InR; omega)
    | (have hm2 := small_mul (x := less) (y := a) (by omega) (by omega) (by omega) (by omega)
       unfold InR; omega)
    | (refine fin ?_
       have q := bez_least (a := a) (b := b) (less := less) hr.1 (by omega) hr.2.2.1 (by omega) (by omega) (by omega)
       rw [e5]
       simpa using q)
    | (exfalso; apply h; rw [e5]; exact hz.2.2.1)
    | fail
section
open Go.ChangeShapes Go.WideShapes Go.ChangeAt Go.RowKit Go.Joins Go.Deep
set_option linter.unusedVariables false
theorem nbez_own : ownKnob Try.prog.godebug = none := by kernel_rfl
theorem nbez_laidOut : laidOutB Try.prog = true := by kernel_rfl
theorem nbez_readOk {ts : Array TypeId} (h : ts.toList.all (fun t => Try.prog.readableRec t && decide (t < Try.prog.types.size)) = true) : ∀ t ∈ ts.toList, Try.prog.readableRec t = true ∧ t < Try.prog.types.size := fun t ht => by
  have := List.all_eq_true.1 h t ht
  simpa using this
mutual
theorem nbez_bD {H : Type} : ∀ d : DataW H, Rows.uptoBulk d = bulkD d
  | .lit l => by cases l <;> simp [Rows.uptoBulk, bulkD]
  | .nil => by simp [Rows.uptoBulk, bulkD]
  | .ptr d => by simp [Rows.uptoBulk, bulkD, nbez_bD d]
  | .slice a b => by simp [Rows.uptoBulk, bulkD, nbez_bL a, nbez_bL b]
  | .agg a => by simp [Rows.uptoBulk, bulkD, nbez_bL a]
  | .iface _ d => by simp [Rows.uptoBulk, bulkD, nbez_bD d]
  | .map e => by simp [Rows.uptoBulk, bulkD, nbez_bE e]
  | .held _ => by simp [Rows.uptoBulk, bulkD]
theorem nbez_bL {H : Type} : ∀ d : List (DataW H), Rows.uptoBulkAll d = bulkL d
  | [] => by simp [Rows.uptoBulkAll, bulkL]
  | d :: r => by simp [Rows.uptoBulkAll, bulkL, nbez_bD d, nbez_bL r]
theorem nbez_bE {H : Type} : ∀ d : List (Lit × DataW H), Rows.uptoBulkEntries d = bulkE d
  | [] => by simp [Rows.uptoBulkEntries, bulkE]
  | d :: r => by simp [Rows.uptoBulkEntries, bulkE, nbez_bX d, nbez_bE r]
theorem nbez_bX {H : Type} : ∀ d : Lit × DataW H, Rows.uptoBulkEntry d = bulkX d
  | (l, d) => by cases l <;> simp [Rows.uptoBulkEntry, bulkX, nbez_bD d]
end
set_option maxRecDepth 100000 in
theorem nbez_lifted (os : Os) (started : os.Started) (H : Type) (enc : TypeId × Value → H) (F : Stop.Interp) :
    ReturnsInHanded {} Try.checked os 4 .any ((Rows.OpenSpec.upto Rows.numBezoutSpec).pre6 enc Try.prog Try.f4 Rows.numBezoutUptoRow.domain false) (((Rows.OpenSpec.upto Rows.numBezoutSpec).at F).post enc Try.prog Try.f4 false true false false) := by
  refine returnsInHanded_of_cond (C := Try.checked) (s := Rows.OpenSpec.upto Rows.numBezoutSpec) (k := Rows.uptoSmall) rfl nbez_own started (by kernel_rfl) Try.func4
    (OpenSpec.witness (enc := enc) (C := Try.checked) (s := Rows.OpenSpec.upto Rows.numBezoutSpec) (k := Rows.uptoSmall) rfl false ⟨#[], #[.int .i64 0, .int .i64 0, .int .i64 0], []⟩ 8 (by kernel_rfl) (by kernel_rfl) (by kernel_rfl)
      (x := ([.lit (.int .i64 0), .lit (.int .i64 0), .lit (.int .i64 0)], [], [])) (by kernel_rfl) rfl (by kernel_rfl)) ?_
  intro W base args ds gs before hval0 hW _ hk _
  show Calls Try.prog 4 args W fun e W' => ∃ v, e = .returned v ∧ Rows.numBezoutSpec.post enc Try.prog Try.f4 false true false false W args v W'
  have hval : ∀ (j : Nat) t v, Try.f4.params[j]? = some t → args[j]? = some v → Value.okWide Try.prog W .any base t v := hval0
  have hW' := hW
  have hlt := hW.lt
  obtain ⟨p, q, hA0, hV, rfl, hfz, hnd⟩ := hW
  have hA : DataW.TrodAll enc Try.prog W 0 (fun _ => true) true Try.f4.params.toList args.toList ds p := hA0
  have hA1 := hA
  rw [Try.params4] at hA hval
  obtain ⟨v0, vs0, d0, ds0, p0, q0, hargs, rfl, rfl, h0, r0⟩ := trodAll_cons hA
  obtain ⟨v1, vs1, d1, ds1, p1, q1, rfl, rfl, rfl, h1, r1⟩ := trodAll_cons r0
  obtain ⟨v2, vs2, d2, ds2, p2, q2, rfl, rfl, rfl, h2, r2⟩ := trodAll_cons r1
  obtain ⟨rfl, rfl, rfl⟩ := trodAll_nil r2
  obtain rfl : args = #[v0, v1, v2] := by cases args; simp_all
  obtain ⟨rfl, rfl⟩ := trodVars_none hV
  obtain ⟨z0, rfl⟩ := okWide_int Try.underlying3 (hval 0 3 v0 rfl rfl)
  obtain ⟨y0, u0, b0, e0⟩ := arg_leaf (α := Int) (opn_int Try.underlying3) rfl h0
  obtain ⟨z1, rfl⟩ := okWide_int Try.underlying3 (hval 1 3 v1 rfl rfl)
  obtain ⟨y1, u1, b1, e1⟩ := arg_leaf (α := Int) (opn_int Try.underlying3) rfl h1
  obtain ⟨z2, rfl⟩ := okWide_int Try.underlying3 (hval 2 3 v2 rfl rfl)
  obtain ⟨y2, u2, b2, e2⟩ := arg_leaf (α := Int) (opn_int Try.underlying3) rfl h2
  have hB : Siz.bulk y0 + Siz.bulk y1 + Siz.bulk y2 ≤ 1048576 := by
    have h := of_decide_eq_true hk
    rw [nbez_bL] at h
    simp only [List.append_nil, bulkL] at h
    omega
  have hR := repL_cons (M := fun _ => False) (β := fun _ => none) (cp := fun _ => 0) (.c e0) (repL_cons (M := fun _ => False) (β := fun _ => none) (cp := fun _ => 0) (.c e1) (repL_cons (M := fun _ => False) (β := fun _ => none) (cp := fun _ => 0) (.c e2) (repL_nil)))
  refine (law_callsA (nbez_vc y0 y1 y2 u0 u1 u2 hB) hR).mono fun e W' ⟨he, bel⟩ => ?_
  subst he
  exact ⟨_, rfl, _, _, _, [], _, [], hW', trodAll_mk1 (shut_bool Try.underlying4 _), trodAll_below nbez_laidOut bel (nbez_readOk (by kernel_rfl)) (fun x hx => hlt x (List.mem_append_left _ hx)) hA1, rfl, bel.frame _, fun h => by cases h⟩
theorem NumBezout_proved : Rows.NumBezoutUptoSaid :=
  OpenClaim.holds_of_cond 4 Try.f4 rfl rfl rfl rfl rfl rfl rfl ⟨rfl, rfl, rfl, rfl, rfl⟩ rfl rfl rfl rfl rfl (by kernel_rfl) Try.func4 (by kernel_rfl)
    (of_decide_eq_true (by kernel_rfl)) (by unfold Func.isWrapper; first | (rw [if_pos (by decide +kernel)]; kernel_rfl) | (rw [if_neg (by decide +kernel)]; exact ⟨rfl, rfl⟩))
    (fun os started H enc _ F => nbez_lifted os started H enc F)
end

end Go.Proofs.Ytobonmoinjkfbaa
