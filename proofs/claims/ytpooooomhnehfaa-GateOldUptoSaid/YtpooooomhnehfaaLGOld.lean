/- Behind a claim whoever has less hands nothing more, whatever it is; for all inputs. -/
import Derived.Test.YtpooooomhnehfaaGateP
set_option linter.all false
namespace Go.Proofs.Ytpooooomhnehfaa
open Go Go.Abs

noncomputable def cGO : FuncId → Con := fun f => match f with
  | 23 => pureCon gclaim_C
  | 22 => pureCon ghand_C
  | 19 => pureCon (detPC glives_D)
  | _ => fun _ _ _ => Bad 1001
theorem cGO_ok : ConOk Try.prog cGO := fun f A H K h => by
  unfold cGO at h
  split at h
  · exact ⟨⟨Try.f23, Try.func23, by kernel_rfl, by kernel_rfl⟩, pureCon_ok gclaim_ok h⟩
  · exact ⟨⟨Try.f22, Try.func22, by kernel_rfl, by kernel_rfl⟩, pureCon_ok ghand_ok h⟩
  · exact ⟨⟨Try.f19, Try.func19, by kernel_rfl, by kernel_rfl⟩, pureCon_ok glives_ok h⟩
  · cases h
set_option maxRecDepth 100000 in
set_option maxHeartbeats 4000000 in
theorem gold_vc (g : Gate) (who : Int) (epoch : Int) (x : Give) (fit_g : Siz.fit g) (fit_who : Siz.fit who) (fit_epoch : Siz.fit epoch) (fit_x : Siz.fit x) (hB : Siz.bulk g + Siz.bulk who + Siz.bulk epoch + Siz.bulk x ≤ 1048576) : FnOk Try.prog 10 [.agg (Dat.enc fun _ => g), .i .i64 fun _ => who, .i .i64 fun _ => epoch, .agg (Dat.enc fun _ => x)] [] (outA (.bc true) []) := by
  refine fn_ok envOk zl cGO_ok noDraws_ok (keep := [0, 1, 2, 3, 4, 7, 8, 9, 10, 11, 13, 14, 32, 58]) Try.func10 rfl ?_
  have fin := @fin_b
  have finc := @fin_t
  have hp' : g.out.length ≤ 9223372036854775807 := by
    have h1 := bulk_len (α := ByteArray) (fun _ => Nat.le_add_left _ _) g.out
    simp only [Siz.bulk] at hB h1
    omega
  generalize outA (.bc true) [] = K at fin finc
  cbv
  repeat' first | (show Stp _; exfalso; first | omega | (exact h ‹_›) | (exact absurd ‹_› h) | (exact Bool.false_ne_true (h.symm.trans (show _ = true by assumption)))) | (refine Stp.mk ?_; cbv) | (refine Gen.mk fun r hr => ?_; (try simp only [Dat.ok, Dat.dec, Leaf.ok, Leaf.val, Fence.eta, Try.eta, Gate.eta, Give.eta, GateOp.eta, GateAns.eta, val_sl, val_nil] at hr); cbv) | exact trivial | rfl | refine Both.mk ?_ ?_ | (refine Imp.mk fun h => ?_; (try dsimp only at h); (try simp only [nc, Int.toNat_natCast, Bool.not_eq_true', Bool.not_eq_false', decide_eq_true_eq, decide_eq_false_iff_not, beq_iff_eq, beq_eq_false_iff_ne, ba_inj, bne_iff_ne, ne_eq, Bool.and_eq_true, Bool.or_eq_true, Bool.and_eq_false_iff, Bool.or_eq_false_iff, Int.not_le, Int.not_lt, Nat.not_le, Nat.not_lt] at h); (try simp only [nc] at h)) | refine Ob.mk ?_ ?_ | refine Chk.mk (by kernel_rfl) ?_ | refine Eq'.mk ?_ | (refine AllN.mk fun i hi => ?_; cbv) | (refine AllS.mk fun r hr => ?_; (try simp only [Dat.ok, Dat.dec, Leaf.ok, Leaf.val, Fence.eta, Try.eta, Gate.eta, Give.eta, GateOp.eta, GateAns.eta, val_sl] at hr); cbv)
  all_goals ((try dsimp only at *); (try simp only [nc, Int.toNat_natCast, Bool.not_eq_true', Bool.not_eq_false', decide_eq_true_eq, decide_eq_false_iff_not, beq_iff_eq, beq_eq_false_iff_ne, ba_inj, bne_iff_ne, ne_eq, Bool.and_eq_true, Bool.or_eq_true, Bool.and_eq_false_iff, Bool.or_eq_false_iff, Int.not_le, Int.not_lt, Nat.not_le, Nat.not_lt] at *); (try simp only [nc] at *))
  all_goals try simp only [Dat.ok, Dat.dec, Leaf.ok, Leaf.val, Fence.eta, Try.eta, Gate.eta, Give.eta, GateOp.eta, GateAns.eta, val_sl] at *
  all_goals subst_vars
  all_goals first
    | exact finc
    | exact Nat.le_refl _
    | exact ⟨⟨trivial, trivial, rfl, fun i _ => Dat.hok _⟩, hp'⟩
    | (refine fin ?_
       rw [claimG_err (show ¬ (claimG g who epoch).2.2 = 0 by assumption)]; rfl)
    | skip
  all_goals obtain ⟨q1, q2, q3⟩ := old_law (x := x) (show (claimG g _ _).2.2 = 0 by assumption) (by assumption)
  all_goals first
    | exact ⟨⟨trivial, trivial, rfl, fun i _ => Dat.hok _⟩, ⟨trivial, trivial, trivial, trivial⟩, show _ ≤ _ by omega⟩
    | (refine fin ?_
       have := q2 rfl rfl
       simpa using this)
    | (have q7 : ¬ x.who = who := by assumption
       obtain ⟨q4, q5⟩ := q3 (fun q => q7 q.2)
       first
         | (refine fin ?_; rw [beq_iff_eq]; omega)
         | (exfalso; rw [q4] at h; exact absurd h (by decide)))
    | (have q7 : ¬ x.epoch = epoch := by assumption
       obtain ⟨q4, q5⟩ := q3 (fun q => q7 q.1)
       first
         | (refine fin ?_; rw [beq_iff_eq]; omega)
         | (exfalso; rw [q4] at h; exact absurd h (by decide)))
    | fail
section
open Go.ChangeShapes Go.WideShapes Go.ChangeAt Go.RowKit Go.Joins Go.Deep
set_option linter.unusedVariables false
theorem gold_own : ownKnob Try.prog.godebug = none := by kernel_rfl
theorem gold_laidOut : laidOutB Try.prog = true := by kernel_rfl
theorem gold_readOk {ts : Array TypeId} (h : ts.toList.all (fun t => Try.prog.readableRec t && decide (t < Try.prog.types.size)) = true) : ∀ t ∈ ts.toList, Try.prog.readableRec t = true ∧ t < Try.prog.types.size := fun t ht => by
  have := List.all_eq_true.1 h t ht
  simpa using this
mutual
theorem gold_bD {H : Type} : ∀ d : DataW H, Rows.uptoBulk d = bulkD d
  | .lit l => by cases l <;> simp [Rows.uptoBulk, bulkD]
  | .nil => by simp [Rows.uptoBulk, bulkD]
  | .ptr d => by simp [Rows.uptoBulk, bulkD, gold_bD d]
  | .slice a b => by simp [Rows.uptoBulk, bulkD, gold_bL a, gold_bL b]
  | .agg a => by simp [Rows.uptoBulk, bulkD, gold_bL a]
  | .iface _ d => by simp [Rows.uptoBulk, bulkD, gold_bD d]
  | .map e => by simp [Rows.uptoBulk, bulkD, gold_bE e]
  | .held _ => by simp [Rows.uptoBulk, bulkD]
theorem gold_bL {H : Type} : ∀ d : List (DataW H), Rows.uptoBulkAll d = bulkL d
  | [] => by simp [Rows.uptoBulkAll, bulkL]
  | d :: r => by simp [Rows.uptoBulkAll, bulkL, gold_bD d, gold_bL r]
theorem gold_bE {H : Type} : ∀ d : List (Lit × DataW H), Rows.uptoBulkEntries d = bulkE d
  | [] => by simp [Rows.uptoBulkEntries, bulkE]
  | d :: r => by simp [Rows.uptoBulkEntries, bulkE, gold_bX d, gold_bE r]
theorem gold_bX {H : Type} : ∀ d : Lit × DataW H, Rows.uptoBulkEntry d = bulkX d
  | (l, d) => by cases l <;> simp [Rows.uptoBulkEntry, bulkX, gold_bD d]
end
set_option maxRecDepth 100000 in
theorem gold_lifted (os : Os) (started : os.Started) (H : Type) (enc : TypeId × Value → H) (F : Stop.Interp) :
    ReturnsInHanded {} Try.checked os 10 .any ((Rows.OpenSpec.upto Rows.gateOldSpec).pre6 enc Try.prog Try.f10 Rows.gateOldUptoRow.domain false) (((Rows.OpenSpec.upto Rows.gateOldSpec).at F).post enc Try.prog Try.f10 false true false false) := by
  refine returnsInHanded_of_cond (C := Try.checked) (s := Rows.OpenSpec.upto Rows.gateOldSpec) (k := Rows.uptoSmall) rfl gold_own started (by kernel_rfl) Try.func10
    (OpenSpec.witness (enc := enc) (C := Try.checked) (s := Rows.OpenSpec.upto Rows.gateOldSpec) (k := Rows.uptoSmall) rfl false ⟨#[], #[.agg #[.int .i64 0, .int .i64 0, .slice none 0 0], .int .i64 0, .int .i64 0, .agg #[.int .i64 0, .int .i64 0, .int .i64 0, .string .empty]], []⟩ 8 (by kernel_rfl) (by kernel_rfl) (by kernel_rfl)
      (x := ([.agg [.agg [.lit (.int .i64 0), .lit (.int .i64 0)], .nil], .lit (.int .i64 0), .lit (.int .i64 0), .agg [.lit (.int .i64 0), .lit (.int .i64 0), .lit (.int .i64 0), .lit (.string [])]], [], [])) (by kernel_rfl) rfl (by kernel_rfl)) ?_
  intro W base args ds gs before hval0 hW _ hk _
  show Calls Try.prog 10 args W fun e W' => ∃ v, e = .returned v ∧ Rows.gateOldSpec.post enc Try.prog Try.f10 false true false false W args v W'
  have hval : ∀ (j : Nat) t v, Try.f10.params[j]? = some t → args[j]? = some v → Value.okWide Try.prog W .any base t v := hval0
  have hW' := hW
  have hlt := hW.lt
  obtain ⟨p, q, hA0, hV, rfl, hfz, hnd⟩ := hW
  have hA : DataW.TrodAll enc Try.prog W 0 (fun _ => true) true Try.f10.params.toList args.toList ds p := hA0
  have hA1 := hA
  rw [Try.params10] at hA hval
  obtain ⟨v0, vs0, d0, ds0, p0, q0, hargs, rfl, rfl, h0, r0⟩ := trodAll_cons hA
  obtain ⟨v1, vs1, d1, ds1, p1, q1, rfl, rfl, rfl, h1, r1⟩ := trodAll_cons r0
  obtain ⟨v2, vs2, d2, ds2, p2, q2, rfl, rfl, rfl, h2, r2⟩ := trodAll_cons r1
  obtain ⟨v3, vs3, d3, ds3, p3, q3, rfl, rfl, rfl, h3, r3⟩ := trodAll_cons r2
  obtain ⟨rfl, rfl, rfl⟩ := trodAll_nil r3
  obtain rfl : args = #[v0, v1, v2, v3] := by cases args; simp_all
  obtain ⟨rfl, rfl⟩ := trodVars_none hV
  obtain ⟨cs0, rfl, _⟩ := okWide_struct Try.underlying46 (hval 0 46 v0 rfl rfl)
  obtain ⟨y0, u0, b0, e0⟩ := arg_agg (α := Gate) opn_Gate h0
  obtain ⟨z1, rfl⟩ := okWide_int Try.underlying3 (hval 1 3 v1 rfl rfl)
  obtain ⟨y1, u1, b1, e1⟩ := arg_leaf (α := Int) (opn_int Try.underlying3) rfl h1
  obtain ⟨z2, rfl⟩ := okWide_int Try.underlying3 (hval 2 3 v2 rfl rfl)
  obtain ⟨y2, u2, b2, e2⟩ := arg_leaf (α := Int) (opn_int Try.underlying3) rfl h2
  obtain ⟨cs3, rfl, _⟩ := okWide_struct Try.underlying51 (hval 3 51 v3 rfl rfl)
  obtain ⟨y3, u3, b3, e3⟩ := arg_agg (α := Give) opn_Give h3
  have hB : Siz.bulk y0 + Siz.bulk y1 + Siz.bulk y2 + Siz.bulk y3 ≤ 1048576 := by
    have h := of_decide_eq_true hk
    rw [gold_bL] at h
    simp only [List.append_nil, bulkL] at h
    omega
  have hR := repL_cons (M := fun _ => False) (β := fun _ => none) (cp := fun _ => 0) (.c e0) (repL_cons (M := fun _ => False) (β := fun _ => none) (cp := fun _ => 0) (.c e1) (repL_cons (M := fun _ => False) (β := fun _ => none) (cp := fun _ => 0) (.c e2) (repL_cons (M := fun _ => False) (β := fun _ => none) (cp := fun _ => 0) (.c e3) (repL_nil))))
  refine (law_callsA (gold_vc y0 y1 y2 y3 u0 u1 u2 u3 hB) hR).mono fun e W' ⟨he, bel⟩ => ?_
  subst he
  exact ⟨_, rfl, _, _, _, [], _, [], hW', trodAll_mk1 (shut_bool Try.underlying4 _), trodAll_below gold_laidOut bel (gold_readOk (by kernel_rfl)) (fun x hx => hlt x (List.mem_append_left _ hx)) hA1, rfl, bel.frame _, fun h => by cases h⟩
theorem GateOld_proved : Rows.GateOldUptoSaid :=
  OpenClaim.holds_of_cond 10 Try.f10 rfl rfl rfl rfl rfl rfl rfl ⟨rfl, rfl, rfl, rfl, rfl⟩ rfl rfl rfl rfl rfl (by kernel_rfl) Try.func10 (by kernel_rfl)
    (of_decide_eq_true (by kernel_rfl)) (by unfold Func.isWrapper; first | (rw [if_pos (by decide +kernel)]; kernel_rfl) | (rw [if_neg (by decide +kernel)]; exact ⟨rfl, rfl⟩))
    (fun os started H enc _ F => gold_lifted os started H enc F)
end

end Go.Proofs.Ytpooooomhnehfaa
