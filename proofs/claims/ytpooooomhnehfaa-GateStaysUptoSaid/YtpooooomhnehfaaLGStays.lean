/- What is out of a gate stays so; for all inputs. -/
import Derived.Test.YtpooooomhnehfaaGateP
set_option linter.all false
namespace Go.Proofs.Ytpooooomhnehfaa
open Go Go.Abs

noncomputable def cGS : FuncId → Con := fun f => match f with
  | 18 => pureCon gplay_C
  | 19 => pureCon (detPC glives_D)
  | 21 => pureCon clOp_C
  | 20 => pureCon (detPC eqStr_D)
  | _ => fun _ _ _ => Bad 1001
theorem cGS_ok : ConOk Try.prog cGS := fun f A H K h => by
  unfold cGS at h
  split at h
  · exact ⟨⟨Try.f18, Try.func18, by kernel_rfl, by kernel_rfl⟩, pureCon_ok gplay_ok h⟩
  · exact ⟨⟨Try.f19, Try.func19, by kernel_rfl, by kernel_rfl⟩, pureCon_ok glives_ok h⟩
  · exact ⟨⟨Try.f21, Try.func21, by kernel_rfl, by kernel_rfl⟩, pureCon_ok clOp_ok h⟩
  · exact ⟨⟨Try.f20, Try.func20, by kernel_rfl, by kernel_rfl⟩, pureCon_ok eqStr_ok h⟩
  · cases h
def dGS : FuncId → Option Dt := fun f => match f with
  | 20 => some (.c eqStr_D)
  | _ => none
theorem dGS_ok : DetOk Try.prog dGS := fun f d h => by
  unfold dGS at h
  split at h
  · cases h; exact ⟨⟨Try.f20, Try.func20, by kernel_rfl, by kernel_rfl⟩, eqStr_ok⟩
  · cases h
set_option maxRecDepth 100000 in
set_option maxHeartbeats 4000000 in
theorem gstays_vc (l : (List GateOp)) (more : (List GateOp)) (fit_l : Siz.fit l) (fit_more : Siz.fit more) (hB : Siz.bulk l + Siz.bulk more ≤ 1048576) : FnOk Try.prog 8 [Leaf.av fun _ => l, Leaf.av fun _ => more] [] (outA (.bc true) []) := by
  refine fn_ok envOk zl cGS_ok (draws_ok envOk zl dGS_ok mixed) (keep := [0, 1, 4, 5, 7, 8, 10, 11, 36]) Try.func8 rfl ?_
  have fin := @fin_b
  have finc := @fin_t
  have hl : l.length ≤ 1048576 ∧ more.length ≤ 1048576 := by
    have h1 := bulk_len GateOp.one_le l
    have h2 := bulk_len GateOp.one_le more
    simp only [Siz.bulk] at hB h1 h2
    omega
  generalize outA (.bc true) [] = K at fin finc
  cbv
  repeat' first | (show Stp _; exfalso; first | omega | (exact h ‹_›) | (exact absurd ‹_› h) | (exact Bool.false_ne_true (h.symm.trans (show _ = true by assumption)))) | (refine Stp.mk ?_; cbv) | (refine Gen.mk fun r hr => ?_; (try simp only [Dat.ok, Dat.dec, Leaf.ok, Leaf.val, Fence.eta, Try.eta, Gate.eta, Give.eta, GateOp.eta, GateAns.eta, val_sl, val_nil] at hr); cbv) | exact trivial | rfl | refine Both.mk ?_ ?_ | (refine Imp.mk fun h => ?_; (try dsimp only at h); (try simp only [nc, Int.toNat_natCast, Bool.not_eq_true', Bool.not_eq_false', decide_eq_true_eq, decide_eq_false_iff_not, beq_iff_eq, beq_eq_false_iff_ne, ba_inj, bne_iff_ne, ne_eq, Bool.and_eq_true, Bool.or_eq_true, Bool.and_eq_false_iff, Bool.or_eq_false_iff, Int.not_le, Int.not_lt, Nat.not_le, Nat.not_lt] at h); (try simp only [nc] at h)) | refine Ob.mk ?_ ?_ | refine Chk.mk (by kernel_rfl) ?_ | refine Eq'.mk ?_ | (refine AllN.mk fun i hi => ?_; cbv) | (refine AllS.mk fun r hr => ?_; (try simp only [Dat.ok, Dat.dec, Leaf.ok, Leaf.val, Fence.eta, Try.eta, Gate.eta, Give.eta, GateOp.eta, GateAns.eta, val_sl] at hr); cbv)
  all_goals ((try dsimp only at *); (try simp only [nc, Int.toNat_natCast, Bool.not_eq_true', Bool.not_eq_false', decide_eq_true_eq, decide_eq_false_iff_not, beq_iff_eq, beq_eq_false_iff_ne, ba_inj, bne_iff_ne, ne_eq, Bool.and_eq_true, Bool.or_eq_true, Bool.and_eq_false_iff, Bool.or_eq_false_iff, Int.not_le, Int.not_lt, Nat.not_le, Nat.not_lt] at *); (try simp only [nc] at *))
  all_goals try simp only [Dat.ok, Dat.dec, Leaf.ok, Leaf.val, Fence.eta, Try.eta, Gate.eta, Give.eta, GateOp.eta, GateAns.eta, val_sl, val_app (α := GateOp) _ _ 5 _ _ rfl rfl rfl] at *
  all_goals subst_vars
  all_goals first
    | exact finc
    | exact Nat.le_refl _
    | exact ⟨rfl, fun i _ => Dat.hok _⟩
    | exact ⟨⟨rfl, fun i _ => Dat.hok _⟩, show _ ≤ _ by omega⟩
    | exact ⟨Nat.le_refl _, trivial, by omega, by omega⟩
    | exact ⟨rfl, fun i _ => ok_row rfl (Dat.hok _) (Dat.hok _)⟩
    | skip
  all_goals rename List GateOp => l
  all_goals obtain ⟨a1, a2, a3, a4⟩ := playG_ok (rfl : playG l = playG l) (by assumption)
  all_goals obtain ⟨b1, b2, b3, b4⟩ := playG_ok (rfl : playG (l ++ more) = playG (l ++ more)) (by assumption)
  all_goals obtain ⟨c1, c2, c3⟩ := @run_pre more (runG g0 l)
  all_goals rw [← runG_app, ← a2, ← b2] at c1 c2 c3
  all_goals have vt := val_take (α := ByteArray) (playG (l ++ more)).1.out 1 (playG l).1.out.length c1
  all_goals first
    | exact ⟨trivial, by omega, by omega⟩
    | (exfalso; omega)
    | (refine fin ?_; exact decide_eq_true c3)
    | (refine ⟨c1, Nat.le_refl _, ⟨rfl, fun i _ => Dat.hok _⟩, ⟨rfl, fun i _ => Dat.hok _⟩, ?_⟩
       rw [vt]
       show _ ≤ _
       rw [c2, a2]
       have : ∀ (l : List GateOp) (g : Gate), (runG g l).out.length ≤ g.out.length + l.length := by
         intro l
         induction l with
         | nil => intro g; exact Nat.le_refl _
         | cons o r ih =>
           intro g
           have := ih (nextG g o)
           have := @next_len g o
           rw [runG, List.length_cons]; omega
       have := this l g0
       simp only [g0, List.length_nil] at this
       show (runG ⟨⟨0, 0⟩, []⟩ l).out.length ≤ _
       omega)
    | (exfalso; rw [vt, c2] at h; revert h; unfold eqStr_S; simp; done)
    | fail
section
open Go.ChangeShapes Go.WideShapes Go.ChangeAt Go.RowKit Go.Joins Go.Deep
set_option linter.unusedVariables false
theorem gstays_own : ownKnob Try.prog.godebug = none := by kernel_rfl
theorem gstays_laidOut : laidOutB Try.prog = true := by kernel_rfl
theorem gstays_readOk {ts : Array TypeId} (h : ts.toList.all (fun t => Try.prog.readableRec t && decide (t < Try.prog.types.size)) = true) : ∀ t ∈ ts.toList, Try.prog.readableRec t = true ∧ t < Try.prog.types.size := fun t ht => by
  have := List.all_eq_true.1 h t ht
  simpa using this
mutual
theorem gstays_bD {H : Type} : ∀ d : DataW H, Rows.uptoBulk d = bulkD d
  | .lit l => by cases l <;> simp [Rows.uptoBulk, bulkD]
  | .nil => by simp [Rows.uptoBulk, bulkD]
  | .ptr d => by simp [Rows.uptoBulk, bulkD, gstays_bD d]
  | .slice a b => by simp [Rows.uptoBulk, bulkD, gstays_bL a, gstays_bL b]
  | .agg a => by simp [Rows.uptoBulk, bulkD, gstays_bL a]
  | .iface _ d => by simp [Rows.uptoBulk, bulkD, gstays_bD d]
  | .map e => by simp [Rows.uptoBulk, bulkD, gstays_bE e]
  | .held _ => by simp [Rows.uptoBulk, bulkD]
theorem gstays_bL {H : Type} : ∀ d : List (DataW H), Rows.uptoBulkAll d = bulkL d
  | [] => by simp [Rows.uptoBulkAll, bulkL]
  | d :: r => by simp [Rows.uptoBulkAll, bulkL, gstays_bD d, gstays_bL r]
theorem gstays_bE {H : Type} : ∀ d : List (Lit × DataW H), Rows.uptoBulkEntries d = bulkE d
  | [] => by simp [Rows.uptoBulkEntries, bulkE]
  | d :: r => by simp [Rows.uptoBulkEntries, bulkE, gstays_bX d, gstays_bE r]
theorem gstays_bX {H : Type} : ∀ d : Lit × DataW H, Rows.uptoBulkEntry d = bulkX d
  | (l, d) => by cases l <;> simp [Rows.uptoBulkEntry, bulkX, gstays_bD d]
end
set_option maxRecDepth 100000 in
theorem gstays_lifted (os : Os) (started : os.Started) (H : Type) (enc : TypeId × Value → H) (F : Stop.Interp) :
    ReturnsInHanded {} Try.checked os 8 .any ((Rows.OpenSpec.upto Rows.gateStaysSpec).pre6 enc Try.prog Try.f8 Rows.gateStaysUptoRow.domain false) (((Rows.OpenSpec.upto Rows.gateStaysSpec).at F).post enc Try.prog Try.f8 false true false false) := by
  refine returnsInHanded_of_cond (C := Try.checked) (s := Rows.OpenSpec.upto Rows.gateStaysSpec) (k := Rows.uptoSmall) rfl gstays_own started (by kernel_rfl) Try.func8
    (OpenSpec.witness (enc := enc) (C := Try.checked) (s := Rows.OpenSpec.upto Rows.gateStaysSpec) (k := Rows.uptoSmall) rfl false ⟨#[], #[.slice none 0 0, .slice none 0 0], []⟩ 8 (by kernel_rfl) (by kernel_rfl) (by kernel_rfl)
      (x := ([.nil, .nil], [], [])) (by kernel_rfl) rfl (by kernel_rfl)) ?_
  intro W base args ds gs before hval0 hW _ hk _
  show Calls Try.prog 8 args W fun e W' => ∃ v, e = .returned v ∧ Rows.gateStaysSpec.post enc Try.prog Try.f8 false true false false W args v W'
  have hval : ∀ (j : Nat) t v, Try.f8.params[j]? = some t → args[j]? = some v → Value.okWide Try.prog W .any base t v := hval0
  have hW' := hW
  have hlt := hW.lt
  obtain ⟨p, q, hA0, hV, rfl, hfz, hnd⟩ := hW
  have hA : DataW.TrodAll enc Try.prog W 0 (fun _ => true) true Try.f8.params.toList args.toList ds p := hA0
  have hA1 := hA
  rw [Try.params8] at hA hval
  obtain ⟨v0, vs0, d0, ds0, p0, q0, hargs, rfl, rfl, h0, r0⟩ := trodAll_cons hA
  obtain ⟨v1, vs1, d1, ds1, p1, q1, rfl, rfl, rfl, h1, r1⟩ := trodAll_cons r0
  obtain ⟨rfl, rfl, rfl⟩ := trodAll_nil r1
  obtain rfl : args = #[v0, v1] := by cases args; simp_all
  obtain ⟨rfl, rfl⟩ := trodVars_none hV
  obtain ⟨z0, z'0, z''0, rfl⟩ := okWide_slice Try.underlying43 (hval 0 43 v0 rfl rfl)
  obtain ⟨y0, u0, b0, e0⟩ := arg_leaf (α := (List GateOp)) (opn_slice Try.underlying43 (by kernel_rfl) (by decide) opn_GateOp) rfl h0
  obtain ⟨z1, z'1, z''1, rfl⟩ := okWide_slice Try.underlying43 (hval 1 43 v1 rfl rfl)
  obtain ⟨y1, u1, b1, e1⟩ := arg_leaf (α := (List GateOp)) (opn_slice Try.underlying43 (by kernel_rfl) (by decide) opn_GateOp) rfl h1
  have hB : Siz.bulk y0 + Siz.bulk y1 ≤ 1048576 := by
    have h := of_decide_eq_true hk
    rw [gstays_bL] at h
    simp only [List.append_nil, bulkL] at h
    omega
  have hR := repL_cons (M := fun _ => False) (β := fun _ => none) (cp := fun _ => 0) (.c e0) (repL_cons (M := fun _ => False) (β := fun _ => none) (cp := fun _ => 0) (.c e1) (repL_nil))
  refine (law_callsA (gstays_vc y0 y1 u0 u1 hB) hR).mono fun e W' ⟨he, bel⟩ => ?_
  subst he
  exact ⟨_, rfl, _, _, _, [], _, [], hW', trodAll_mk1 (shut_bool Try.underlying4 _), trodAll_below gstays_laidOut bel (gstays_readOk (by kernel_rfl)) (fun x hx => hlt x (List.mem_append_left _ hx)) hA1, rfl, bel.frame _, fun h => by cases h⟩
theorem GateStays_proved : Rows.GateStaysUptoSaid :=
  OpenClaim.holds_of_cond 8 Try.f8 rfl rfl rfl rfl rfl rfl rfl ⟨rfl, rfl, rfl, rfl, rfl⟩ rfl rfl rfl rfl rfl (by kernel_rfl) Try.func8 (by kernel_rfl)
    (of_decide_eq_true (by kernel_rfl)) (by unfold Func.isWrapper; first | (rw [if_pos (by decide +kernel)]; kernel_rfl) | (rw [if_neg (by decide +kernel)]; exact ⟨rfl, rfl⟩))
    (fun os started H enc _ F => gstays_lifted os started H enc F)
end

end Go.Proofs.Ytpooooomhnehfaa
