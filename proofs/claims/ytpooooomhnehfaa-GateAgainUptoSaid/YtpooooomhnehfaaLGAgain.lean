/- Whoever hands again what it has handed is told so, and nothing is other by it; whoever hands another text with that number is refused; for all inputs. -/
import Derived.Test.YtpooooomhnehfaaGateP
set_option linter.all false
namespace Go.Proofs.Ytpooooomhnehfaa
open Go Go.Abs

noncomputable def cGA : FuncId → Con := fun f => match f with
  | 22 => pureCon ghand_C
  | 19 => pureCon (detPC glives_D)
  | _ => fun _ _ _ => Bad 1001
theorem cGA_ok : ConOk Try.prog cGA := fun f A H K h => by
  unfold cGA at h
  split at h
  · exact ⟨⟨Try.f22, Try.func22, by kernel_rfl, by kernel_rfl⟩, pureCon_ok ghand_ok h⟩
  · exact ⟨⟨Try.f19, Try.func19, by kernel_rfl, by kernel_rfl⟩, pureCon_ok glives_ok h⟩
  · cases h
def dGA : FuncId → Option Dt := fun f => match f with
  | 20 => some (.c eqStr_D)
  | _ => none
theorem dGA_ok : DetOk Try.prog dGA := fun f d h => by
  unfold dGA at h
  split at h
  · cases h; exact ⟨⟨Try.f20, Try.func20, by kernel_rfl, by kernel_rfl⟩, eqStr_ok⟩
  · cases h
set_option maxRecDepth 100000 in
set_option maxHeartbeats 4000000 in
theorem gagain_vc (g : Gate) (x : Give) (text : ByteArray) (fit_g : Siz.fit g) (fit_x : Siz.fit x) (fit_text : Siz.fit text) (hB : Siz.bulk g + Siz.bulk x + Siz.bulk text ≤ 1048576) : FnOk Try.prog 9 [.agg (Dat.enc fun _ => g), .agg (Dat.enc fun _ => x), .s fun _ => text] [] (outA (.bc true) []) := by
  refine fn_ok envOk zl cGA_ok (draws_ok envOk zl dGA_ok mixed) (keep := [0, 1, 2, 3, 4, 6, 7, 8, 9, 10, 11, 12, 13, 16, 29, 85, 94]) Try.func9 rfl ?_
  have fin := @fin_b
  have finc := @fin_t
  have hp' : g.out.length ≤ 9223372036854775807 := by
    have h1 := bulk_len (α := ByteArray) (fun _ => Nat.le_add_left _ _) g.out
    simp only [Siz.bulk] at hB h1
    omega
  generalize outA (.bc true) [] = K at fin finc
  cbv
  repeat' first | (show Stp _; exfalso; first | omega | (exact h ‹_›) | (exact absurd ‹_› h) | (exact Bool.false_ne_true (h.symm.trans (show _ = true by assumption)))) | (refine Stp.mk ?_; cbv) | (refine Gen.mk fun r hr => ?_; (try simp only [Dat.ok, Dat.dec, Leaf.ok, Leaf.val, Fence.eta, Try.eta, Gate.eta, Give.eta, GateOp.eta, GateAns.eta, val_sl, val_nil] at hr); cbv) | exact trivial | rfl | refine Both.mk ?_ ?_ | (refine Imp.mk fun h => ?_; (try dsimp only at h); (try simp only [nc, Int.toNat_natCast, Bool.not_eq_true', Bool.not_eq_false', decide_eq_true_eq, decide_eq_false_iff_not, beq_iff_eq, beq_eq_false_iff_ne, ba_inj, bne_iff_ne, ne_eq, Bool.and_eq_true, Bool.or_eq_true, Bool.and_eq_false_iff, Bool.or_eq_false_iff, Int.not_le, Int.not_lt, Nat.not_le, Nat.not_lt] at h); (try simp only [nc] at h)) | refine Ob.mk ?_ ?_ | refine Chk.mk (by kernel_rfl) ?_ | refine Eq'.mk ?_ | (refine AllN.mk fun i hi => ?_; cbv) | (refine AllS.mk fun r hr => ?_; (try simp only [Dat.ok, Dat.dec, Leaf.ok, Leaf.val, Fence.eta, Try.eta, Gate.eta, Give.eta, GateOp.eta, GateAns.eta, val_sl] at hr); cbv)
  all_goals ((try dsimp only at *); (try simp only [nc, Int.toNat_natCast, Bool.not_eq_true', Bool.not_eq_false', decide_eq_true_eq, decide_eq_false_iff_not, beq_iff_eq, beq_eq_false_iff_ne, ba_inj, bne_iff_ne, ne_eq, Bool.and_eq_true, Bool.or_eq_true, Bool.and_eq_false_iff, Bool.or_eq_false_iff, Int.not_le, Int.not_lt, Nat.not_le, Nat.not_lt] at *); (try simp only [nc] at *))
  all_goals try simp only [Dat.ok, Dat.dec, Leaf.ok, Leaf.val, Fence.eta, Try.eta, Gate.eta, Give.eta, GateOp.eta, GateAns.eta, val_sl] at *
  all_goals subst_vars
  all_goals first
    | exact finc
    | exact Nat.le_refl _
    | exact ⟨⟨trivial, trivial, rfl, fun i _ => Dat.hok _⟩, ⟨trivial, trivial, trivial, trivial⟩, hp'⟩
    | (refine fin ?_
       rw [handG_err (show ¬ (handG g x).2.2 = 0 by assumption)]; rfl)
    | skip
  all_goals obtain ⟨q0, q1, q2, q3, q4, q5, q6⟩ := again_law (show (handG g x).2.2 = 0 by assumption)
  all_goals first
    | exact ⟨q2, q3⟩
    | omega
    | exact ⟨⟨trivial, trivial, rfl, fun i _ => Dat.hok _⟩, ⟨trivial, trivial, trivial, trivial⟩, show _ ≤ _ by omega⟩
    | (rw [q1]; exact ⟨Nat.le_refl _, Nat.le_refl _, ⟨rfl, fun i _ => Dat.hok _⟩, ⟨rfl, fun i _ => Dat.hok _⟩, show _ ≤ _ by dsimp only; omega⟩)
    | (exfalso; exact absurd q4 (by assumption))
    | (exfalso; omega)
    | (exfalso; rw [q1] at h; exact h rfl)
    | (exfalso; rw [q1] at h; exact absurd h (by decide))
    | (exfalso; rw [q1] at h; revert h; simp; done)
    | (exfalso; rw [q1] at h; revert h; unfold eqStr_S; simp; done)
    | (refine fin ?_
       rw [q6 text (by assumption) (by omega)]; rfl)
    | fail
section
open Go.ChangeShapes Go.WideShapes Go.ChangeAt Go.RowKit Go.Joins Go.Deep
set_option linter.unusedVariables false
theorem gagain_own : ownKnob Try.prog.godebug = none := by kernel_rfl
theorem gagain_laidOut : laidOutB Try.prog = true := by kernel_rfl
theorem gagain_readOk {ts : Array TypeId} (h : ts.toList.all (fun t => Try.prog.readableRec t && decide (t < Try.prog.types.size)) = true) : ∀ t ∈ ts.toList, Try.prog.readableRec t = true ∧ t < Try.prog.types.size := fun t ht => by
  have := List.all_eq_true.1 h t ht
  simpa using this
mutual
theorem gagain_bD {H : Type} : ∀ d : DataW H, Rows.uptoBulk d = bulkD d
  | .lit l => by cases l <;> simp [Rows.uptoBulk, bulkD]
  | .nil => by simp [Rows.uptoBulk, bulkD]
  | .ptr d => by simp [Rows.uptoBulk, bulkD, gagain_bD d]
  | .slice a b => by simp [Rows.uptoBulk, bulkD, gagain_bL a, gagain_bL b]
  | .agg a => by simp [Rows.uptoBulk, bulkD, gagain_bL a]
  | .iface _ d => by simp [Rows.uptoBulk, bulkD, gagain_bD d]
  | .map e => by simp [Rows.uptoBulk, bulkD, gagain_bE e]
  | .held _ => by simp [Rows.uptoBulk, bulkD]
theorem gagain_bL {H : Type} : ∀ d : List (DataW H), Rows.uptoBulkAll d = bulkL d
  | [] => by simp [Rows.uptoBulkAll, bulkL]
  | d :: r => by simp [Rows.uptoBulkAll, bulkL, gagain_bD d, gagain_bL r]
theorem gagain_bE {H : Type} : ∀ d : List (Lit × DataW H), Rows.uptoBulkEntries d = bulkE d
  | [] => by simp [Rows.uptoBulkEntries, bulkE]
  | d :: r => by simp [Rows.uptoBulkEntries, bulkE, gagain_bX d, gagain_bE r]
theorem gagain_bX {H : Type} : ∀ d : Lit × DataW H, Rows.uptoBulkEntry d = bulkX d
  | (l, d) => by cases l <;> simp [Rows.uptoBulkEntry, bulkX, gagain_bD d]
end
set_option maxRecDepth 100000 in
theorem gagain_lifted (os : Os) (started : os.Started) (H : Type) (enc : TypeId × Value → H) (F : Stop.Interp) :
    ReturnsInHanded {} Try.checked os 9 .any ((Rows.OpenSpec.upto Rows.gateAgainSpec).pre6 enc Try.prog Try.f9 Rows.gateAgainUptoRow.domain false) (((Rows.OpenSpec.upto Rows.gateAgainSpec).at F).post enc Try.prog Try.f9 false true false false) := by
  refine returnsInHanded_of_cond (C := Try.checked) (s := Rows.OpenSpec.upto Rows.gateAgainSpec) (k := Rows.uptoSmall) rfl gagain_own started (by kernel_rfl) Try.func9
    (OpenSpec.witness (enc := enc) (C := Try.checked) (s := Rows.OpenSpec.upto Rows.gateAgainSpec) (k := Rows.uptoSmall) rfl false ⟨#[], #[.agg #[.int .i64 0, .int .i64 0, .slice none 0 0], .agg #[.int .i64 0, .int .i64 0, .int .i64 0, .string .empty], .string .empty], []⟩ 8 (by kernel_rfl) (by kernel_rfl) (by kernel_rfl)
      (x := ([.agg [.agg [.lit (.int .i64 0), .lit (.int .i64 0)], .nil], .agg [.lit (.int .i64 0), .lit (.int .i64 0), .lit (.int .i64 0), .lit (.string [])], .lit (.string [])], [], [])) (by kernel_rfl) rfl (by kernel_rfl)) ?_
  intro W base args ds gs before hval0 hW _ hk _
  show Calls Try.prog 9 args W fun e W' => ∃ v, e = .returned v ∧ Rows.gateAgainSpec.post enc Try.prog Try.f9 false true false false W args v W'
  have hval : ∀ (j : Nat) t v, Try.f9.params[j]? = some t → args[j]? = some v → Value.okWide Try.prog W .any base t v := hval0
  have hW' := hW
  have hlt := hW.lt
  obtain ⟨p, q, hA0, hV, rfl, hfz, hnd⟩ := hW
  have hA : DataW.TrodAll enc Try.prog W 0 (fun _ => true) true Try.f9.params.toList args.toList ds p := hA0
  have hA1 := hA
  rw [Try.params9] at hA hval
  obtain ⟨v0, vs0, d0, ds0, p0, q0, hargs, rfl, rfl, h0, r0⟩ := trodAll_cons hA
  obtain ⟨v1, vs1, d1, ds1, p1, q1, rfl, rfl, rfl, h1, r1⟩ := trodAll_cons r0
  obtain ⟨v2, vs2, d2, ds2, p2, q2, rfl, rfl, rfl, h2, r2⟩ := trodAll_cons r1
  obtain ⟨rfl, rfl, rfl⟩ := trodAll_nil r2
  obtain rfl : args = #[v0, v1, v2] := by cases args; simp_all
  obtain ⟨rfl, rfl⟩ := trodVars_none hV
  obtain ⟨cs0, rfl, _⟩ := okWide_struct Try.underlying46 (hval 0 46 v0 rfl rfl)
  obtain ⟨y0, u0, b0, e0⟩ := arg_agg (α := Gate) opn_Gate h0
  obtain ⟨cs1, rfl, _⟩ := okWide_struct Try.underlying51 (hval 1 51 v1 rfl rfl)
  obtain ⟨y1, u1, b1, e1⟩ := arg_agg (α := Give) opn_Give h1
  obtain ⟨z2, rfl⟩ := okWide_string Try.underlying9 (hval 2 9 v2 rfl rfl)
  obtain ⟨y2, u2, b2, e2⟩ := arg_leaf (α := ByteArray) (opn_str Try.underlying9) rfl h2
  have hB : Siz.bulk y0 + Siz.bulk y1 + Siz.bulk y2 ≤ 1048576 := by
    have h := of_decide_eq_true hk
    rw [gagain_bL] at h
    simp only [List.append_nil, bulkL] at h
    omega
  have hR := repL_cons (M := fun _ => False) (β := fun _ => none) (cp := fun _ => 0) (.c e0) (repL_cons (M := fun _ => False) (β := fun _ => none) (cp := fun _ => 0) (.c e1) (repL_cons (M := fun _ => False) (β := fun _ => none) (cp := fun _ => 0) (.c e2) (repL_nil)))
  refine (law_callsA (gagain_vc y0 y1 y2 u0 u1 u2 hB) hR).mono fun e W' ⟨he, bel⟩ => ?_
  subst he
  exact ⟨_, rfl, _, _, _, [], _, [], hW', trodAll_mk1 (shut_bool Try.underlying4 _), trodAll_below gagain_laidOut bel (gagain_readOk (by kernel_rfl)) (fun x hx => hlt x (List.mem_append_left _ hx)) hA1, rfl, bel.frame _, fun h => by cases h⟩
theorem GateAgain_proved : Rows.GateAgainUptoSaid :=
  OpenClaim.holds_of_cond 9 Try.f9 rfl rfl rfl rfl rfl rfl rfl ⟨rfl, rfl, rfl, rfl, rfl⟩ rfl rfl rfl rfl rfl (by kernel_rfl) Try.func9 (by kernel_rfl)
    (of_decide_eq_true (by kernel_rfl)) (by unfold Func.isWrapper; first | (rw [if_pos (by decide +kernel)]; kernel_rfl) | (rw [if_neg (by decide +kernel)]; exact ⟨rfl, rfl⟩))
    (fun os started H enc _ F => gagain_lifted os started H enc F)
end

end Go.Proofs.Ytpooooomhnehfaa
