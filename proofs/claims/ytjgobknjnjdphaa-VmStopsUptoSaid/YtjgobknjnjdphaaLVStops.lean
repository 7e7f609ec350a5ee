/- No more fuel is used than there is; what is left is left by who halts, or had a fault, or waits; and then nothing more happens, with whatever fuel; for all inputs. -/
import Derived.Test.YtjgobknjnjdphaaVmL
import Derived.Test.YtjgobknjnjdphaaVmQ
set_option linter.all false
namespace Go.Proofs.Ytjgobknjnjdphaa
open Go Go.Abs

theorem step_none {p : List Ins} {m : Mac} (h : stepM p m = none) : isIn p m ∧ m.inp = [] := by
  by_cases hi : isIn p m
  · refine ⟨hi, ?_⟩
    obtain ⟨g, g1, g2⟩ := step_in hi
    cases hl : m.inp with
    | nil => rfl
    | cons x l =>
      have a := g2 x l m.out
      rw [← hl] at a
      have a2 : stepM p m = some { g x with inp := l, out := m.out } := a
      rw [a2] at h; cases h
  · obtain ⟨m2, h'⟩ := step_not hi
    have a2 : stepM p m = some { m2 with inp := m.inp, out := m.out ++ m2.out } := h' m.inp m.out
    rw [a2] at h; cases h
theorem stops_law {p : List Ins} {v : Vm} {inp : List Int} {fuel : Int} (h : errV p v inp fuel = 0) (hu : ¬ (runV p v inp fuel).2.2.2.1 = fuel) :
    ((runV p v inp fuel).1.halts = true ∨ (runV p v inp fuel).1.fault = true ∨ ((runV p v inp fuel).1.at_ < p.length ∧ (p.getD (runV p v inp fuel).1.at_.toNat Dat.d0).code = 9 ∧ (runV p v inp fuel).2.2.1 = inp.length)) ∧
    ∀ f, 0 ≤ f → f ≤ 5000 → runV p (runV p v inp fuel).1 (inp.drop (runV p v inp fuel).2.2.1.toNat) f = ((runV p v inp fuel).1, [], 0, 0, 0) := by
  obtain ⟨h1, h2, h3, h4, h5, h6, h7⟩ := err_iff.1 h
  have i1 := inv_run h1 fuel.toNat _ (inv0 h)
  have ht := run_tail (p := p) (f := fuel.toNat) (m := mac0 v inp)
  have hi := run_inp (p := p) fuel.toNat (mac0 v inp)
  have em : (mac0 v inp).inp = inp := rfl
  rw [em] at ht hi
  rw [runV_of h] at hu ⊢
  dsimp only at hu ⊢
  rw [ht]
  have hb := run_bd (p := p) fuel.toNat (mac0 v inp)
  have hs := run_less (p := p) fuel.toNat (mac0 v inp) (by omega)
  generalize (runM p fuel.toNat (mac0 v inp)).1 = m at *
  have hst : stuck p (mac0 (vmOf m) m.inp) := by
    rcases hs with hs | hs | hs
    · exact .inl hs
    · exact .inr (.inl hs)
    · obtain ⟨k1, k2⟩ := step_none hs
      obtain ⟨g, g1, g2⟩ := step_in k1
      have := g1 []
      refine .inr (.inr ?_)
      rw [k2]
      exact this
  refine ⟨?_, fun f f0 f1 => ?_⟩
  · rcases hs with hs | hs | hs
    · exact .inl hs
    · exact .inr (.inl hs)
    · obtain ⟨k1, k2⟩ := step_none hs
      have a1 := i1.a1
      have ne := k1.1
      refine .inr (.inr ⟨?_, k1.2, ?_⟩)
      · show m.at_ < p.length
        omega
      · rw [k2]; simp
  · have he := err_next h1 i1 i1.ni f0 f1 (by omega)
    rw [runV_of he, run_stuck hst]
    simp [mac0, vmOf]
theorem stops_pre {p : List Ins} {v : Vm} {inp : List Int} {fuel : Int} (h : errV p v inp fuel = 0) : (runV p v inp fuel).2.2.2.1 ≤ fuel ∧ rightV (runV p v inp fuel).1 = 0 ∧ 0 ≤ (runV p v inp fuel).1.at_ ∧ (runV p v inp fuel).1.at_ ≤ p.length := by
  obtain ⟨h1, h2, h3, h4, h5, h6, h7⟩ := err_iff.1 h
  have i1 := inv_run h1 fuel.toNat _ (inv0 h)
  have hb := run_bd (p := p) fuel.toNat (mac0 v inp)
  rw [runV_of h]
  exact ⟨by dsimp only; omega, inv_right h1 i1, i1.a0, i1.a1⟩
noncomputable def cSame : FuncId → Con := fun f => match f with
  | 29 => pureCon (detPC eqInt_D)
  | _ => fun _ _ _ => Bad 1001
theorem cSame_ok : ConOk Try.prog cSame := fun f A H K h => by
  unfold cSame at h
  split at h
  · exact ⟨⟨Try.f29, Try.func29, by kernel_rfl, by kernel_rfl⟩, pureCon_ok eqInt_ok h⟩
  · cases h
noncomputable def cVC : FuncId → Con := fun f => match f with
  | 19 => pureCon (detPC runF_D)
  | 25 => pureCon (detPC rightVC_D)
  | 20 => pureCon (detPC vlives_D)
  | 29 => pureCon (detPC eqInt_D)
  | 22 => pureCon (detPC eqEmit_D)
  | 23 => pureCon clEmit_C
  | 24 => pureCon clInt_C
  | 21 => inlCon E cSame noDraws [0, 1, 2, 3, 4] Try.f21
  | _ => fun _ _ _ => Bad 1001
theorem cVC_ok : ConOk Try.prog cVC := fun f A H K h => by
  unfold cVC at h
  split at h
  · exact ⟨⟨Try.f19, Try.func19, by kernel_rfl, by kernel_rfl⟩, pureCon_ok runF_ok h⟩
  · exact ⟨⟨Try.f25, Try.func25, by kernel_rfl, by kernel_rfl⟩, pureCon_ok rightVC_ok h⟩
  · exact ⟨⟨Try.f20, Try.func20, by kernel_rfl, by kernel_rfl⟩, pureCon_ok vlives_ok h⟩
  · exact ⟨⟨Try.f29, Try.func29, by kernel_rfl, by kernel_rfl⟩, pureCon_ok eqInt_ok h⟩
  · exact ⟨⟨Try.f22, Try.func22, by kernel_rfl, by kernel_rfl⟩, pureCon_ok eqEmit_ok h⟩
  · exact ⟨⟨Try.f23, Try.func23, by kernel_rfl, by kernel_rfl⟩, pureCon_ok clEmit_ok h⟩
  · exact ⟨⟨Try.f24, Try.func24, by kernel_rfl, by kernel_rfl⟩, pureCon_ok clInt_ok h⟩
  · exact ⟨⟨Try.f21, Try.func21, by kernel_rfl, by kernel_rfl⟩, inl_ok envOk zl cSame_ok noDraws_ok Try.func21 h⟩
  · cases h
def dVC : FuncId → Option Dt := fun f => match f with
  | 19 => some (.c runF_D)
  | 29 => some (.c eqInt_D)
  | 22 => some (.c eqEmit_D)
  | _ => none
theorem dVC_ok : DetOk Try.prog dVC := fun f d h => by
  unfold dVC at h
  split at h
  · cases h; exact ⟨⟨Try.f19, Try.func19, by kernel_rfl, by kernel_rfl⟩, runF_ok⟩
  · cases h; exact ⟨⟨Try.f29, Try.func29, by kernel_rfl, by kernel_rfl⟩, eqInt_ok⟩
  · cases h; exact ⟨⟨Try.f22, Try.func22, by kernel_rfl, by kernel_rfl⟩, eqEmit_ok⟩
  · cases h
set_option maxRecDepth 100000 in
set_option maxHeartbeats 4000000 in
theorem vstops_vc (p : (List Ins)) (v : Vm) (inp : (List Int)) (fuel : Int) (more : Int) (fit_p : Siz.fit p) (fit_v : Siz.fit v) (fit_inp : Siz.fit inp) (fit_fuel : Siz.fit fuel) (fit_more : Siz.fit more) (hB : Siz.bulk p + Siz.bulk v + Siz.bulk inp + Siz.bulk fuel + Siz.bulk more ≤ 1048576) : FnOk Try.prog 9 [Leaf.av fun _ => p, .agg (Dat.enc fun _ => v), Leaf.av fun _ => inp, .i .i64 fun _ => fuel, .i .i64 fun _ => more] [] (outA (.bc true) []) := by
  refine fn_ok envOk zl cVC_ok (draws_ok envOk zl dVC_ok mixed) (keep := [0, 1, 2, 3, 4, 6, 10, 11, 12, 13, 14, 15, 16, 17, 18, 19, 20, 21, 48, 76, 79]) Try.func9 rfl ?_
  have fin := @fin_b
  have finc := @fin_t
  have hl : p.length ≤ 1048576 ∧ v.regs.length ≤ 1048576 ∧ inp.length ≤ 1048576 := by
    have h1 := bulk_len Ins.one_le p
    have h2 := bulk_len (α := Int) (fun _ => Nat.le_add_left _ _) v.regs
    have h3 := bulk_len (α := Int) (fun _ => Nat.le_add_left _ _) inp
    simp only [Siz.bulk] at hB h1 h2 h3
    omega
  generalize outA (.bc true) [] = K at fin finc
  cbv
  repeat' first | (show Stp _; exfalso; first | omega | (exact h ‹_›) | (exact absurd ‹_› h) | (exact Bool.false_ne_true (h.symm.trans (show _ = true by assumption)))) | (refine Stp.mk ?_; cbv) | (refine Gen.mk fun r hr => ?_; (try simp only [Dat.ok, Dat.dec, Leaf.ok, Leaf.val, Ins.eta, Vm.eta, Emit.eta, Msg.eta, val_sl, val_nil] at hr); cbv) | exact trivial | rfl | refine Both.mk ?_ ?_ | (refine Imp.mk fun h => ?_; (try dsimp only at h); (try simp only [nc, Int.toNat_natCast, Bool.not_eq_true', Bool.not_eq_false', decide_eq_true_eq, decide_eq_false_iff_not, beq_iff_eq, beq_eq_false_iff_ne, ba_inj, bne_iff_ne, ne_eq, Bool.and_eq_true, Bool.or_eq_true, Bool.and_eq_false_iff, Bool.or_eq_false_iff, Int.not_le, Int.not_lt, Nat.not_le, Nat.not_lt] at h); (try simp only [nc] at h)) | refine Ob.mk ?_ ?_ | refine Chk.mk (by kernel_rfl) ?_ | refine Eq'.mk ?_ | (refine AllN.mk fun i hi => ?_; cbv) | (refine AllS.mk fun r hr => ?_; (try simp only [Dat.ok, Dat.dec, Leaf.ok, Leaf.val, Ins.eta, Vm.eta, Emit.eta, Msg.eta, val_sl] at hr); cbv)
  all_goals ((try dsimp only at *); (try simp only [nc, Int.toNat_natCast, Bool.not_eq_true', Bool.not_eq_false', decide_eq_true_eq, decide_eq_false_iff_not, beq_iff_eq, beq_eq_false_iff_ne, ba_inj, bne_iff_ne, ne_eq, Bool.and_eq_true, Bool.or_eq_true, Bool.and_eq_false_iff, Bool.or_eq_false_iff, Int.not_le, Int.not_lt, Nat.not_le, Nat.not_lt] at *); (try simp only [nc] at *))
  all_goals try simp only [Dat.ok, Dat.dec, Leaf.ok, Leaf.val, Ins.eta, Vm.eta, Emit.eta, Msg.eta, val_sl] at *
  all_goals have fa : InR more := fit_more
  all_goals unfold InR at fa
  all_goals have hb1 := @runV_bd p v inp fuel
  all_goals first
    | exact finc
    | omega
    | (unfold InR; omega)
    | (exfalso; omega)
    | exact ⟨hb1.1, hb1.2.1, Int.le_refl _⟩
    | exact ⟨⟨rfl, fun i _ => Dat.hok _⟩, ⟨trivial, ⟨rfl, fun i _ => Dat.hok _⟩, trivial, trivial⟩, ⟨rfl, fun i _ => Dat.hok _⟩, show _ ≤ _ by omega, show _ ≤ _ by omega, show _ ≤ _ by omega⟩
    | exact ⟨⟨trivial, ⟨rfl, fun i _ => Dat.hok _⟩, trivial, trivial⟩, show _ ≤ _ by omega⟩
    | (refine fin ?_; simp only [Bool.not_eq_true', beq_eq_false_iff_ne, ne_eq]; assumption)
    | skip
  all_goals (
    have he : errV p v inp fuel = 0 := by rw [← runV_e]; assumption
    obtain ⟨s0, s1, s2, s3⟩ := stops_pre he
    first
      | omega
      | (exfalso; omega)
      | (exfalso; exact absurd s1 (by assumption))
      | exact ⟨s2, by assumption⟩
      | skip)
  all_goals (
    have hne : ¬ (runV p v inp fuel).2.2.2.1 = fuel := by assumption
    obtain ⟨t1, t2⟩ := stops_law (show errV p v inp fuel = 0 by assumption) hne
    have t3 := t2 (if 0 < if 5000 < more then 5000 else more then if 5000 < more then 5000 else more else 0) (by split <;> (try split) <;> omega) (by split <;> (try split) <;> omega)
    have vd := val_dropI inp 1 (runV p v inp fuel).2.2.1 hb1.1 hb1.2.1
    have hld : (inp.drop (runV p v inp fuel).2.2.1.toNat).length ≤ inp.length := by rw [List.length_drop]; omega
    try simp only [vd] at *
    try simp only [t3] at *
    first
      | exact ⟨⟨rfl, fun i _ => Dat.hok _⟩, ⟨trivial, ⟨rfl, fun i _ => Dat.hok _⟩, trivial, trivial⟩, ⟨rfl, fun i _ => Dat.hok _⟩, show _ ≤ _ by omega, show _ ≤ _ by omega, show _ ≤ _ by omega⟩
      | exact ⟨⟨rfl, fun i _ => Dat.hok _⟩, ⟨rfl, fun i _ => Dat.hok _⟩, show _ ≤ _ by omega⟩
      | (refine fin ?_; rfl)
      | (exfalso; exact absurd trivial (by assumption))
      | (exfalso; exact absurd rfl (by assumption))
      | (exfalso; revert h; unfold eqInt_S; simp; done)
      | (exfalso; revert h; simp; done)
      | (exfalso
         have qh : (runV p v inp fuel).1.halts = false := by assumption
         have qf : (runV p v inp fuel).1.fault = false := by assumption
         rcases t1 with q | q | ⟨q1, q2, q3⟩
         · rw [qh] at q; cases q
         · rw [qf] at q; cases q
         · first | omega | exact absurd q2 (by assumption) | exact absurd q3 (by assumption))
      | fail)
section
open Go.ChangeShapes Go.WideShapes Go.ChangeAt Go.RowKit Go.Joins Go.Deep
set_option linter.unusedVariables false
theorem vstops_own : ownKnob Try.prog.godebug = none := by kernel_rfl
theorem vstops_laidOut : laidOutB Try.prog = true := by kernel_rfl
theorem vstops_readOk {ts : Array TypeId} (h : ts.toList.all (fun t => Try.prog.readableRec t && decide (t < Try.prog.types.size)) = true) : ∀ t ∈ ts.toList, Try.prog.readableRec t = true ∧ t < Try.prog.types.size := fun t ht => by
  have := List.all_eq_true.1 h t ht
  simpa using this
mutual
theorem vstops_bD {H : Type} : ∀ d : DataW H, Rows.uptoBulk d = bulkD d
  | .lit l => by cases l <;> simp [Rows.uptoBulk, bulkD]
  | .nil => by simp [Rows.uptoBulk, bulkD]
  | .ptr d => by simp [Rows.uptoBulk, bulkD, vstops_bD d]
  | .slice a b => by simp [Rows.uptoBulk, bulkD, vstops_bL a, vstops_bL b]
  | .agg a => by simp [Rows.uptoBulk, bulkD, vstops_bL a]
  | .iface _ d => by simp [Rows.uptoBulk, bulkD, vstops_bD d]
  | .map e => by simp [Rows.uptoBulk, bulkD, vstops_bE e]
  | .held _ => by simp [Rows.uptoBulk, bulkD]
theorem vstops_bL {H : Type} : ∀ d : List (DataW H), Rows.uptoBulkAll d = bulkL d
  | [] => by simp [Rows.uptoBulkAll, bulkL]
  | d :: r => by simp [Rows.uptoBulkAll, bulkL, vstops_bD d, vstops_bL r]
theorem vstops_bE {H : Type} : ∀ d : List (Lit × DataW H), Rows.uptoBulkEntries d = bulkE d
  | [] => by simp [Rows.uptoBulkEntries, bulkE]
  | d :: r => by simp [Rows.uptoBulkEntries, bulkE, vstops_bX d, vstops_bE r]
theorem vstops_bX {H : Type} : ∀ d : Lit × DataW H, Rows.uptoBulkEntry d = bulkX d
  | (l, d) => by cases l <;> simp [Rows.uptoBulkEntry, bulkX, vstops_bD d]
end
set_option maxRecDepth 100000 in
theorem vstops_lifted (os : Os) (started : os.Started) (H : Type) (enc : TypeId × Value → H) (F : Stop.Interp) :
    ReturnsInHanded {} Try.checked os 9 .any ((Rows.OpenSpec.upto Rows.vmStopsSpec).pre6 enc Try.prog Try.f9 Rows.vmStopsUptoRow.domain false) (((Rows.OpenSpec.upto Rows.vmStopsSpec).at F).post enc Try.prog Try.f9 false true false false) := by
  refine returnsInHanded_of_cond (C := Try.checked) (s := Rows.OpenSpec.upto Rows.vmStopsSpec) (k := Rows.uptoSmall) rfl vstops_own started (by kernel_rfl) Try.func9
    (OpenSpec.witness (enc := enc) (C := Try.checked) (s := Rows.OpenSpec.upto Rows.vmStopsSpec) (k := Rows.uptoSmall) rfl false ⟨#[], #[.slice none 0 0, .agg #[.int .i64 0, .slice none 0 0, .bool false, .bool false], .slice none 0 0, .int .i64 0, .int .i64 0], []⟩ 8 (by kernel_rfl) (by kernel_rfl) (by kernel_rfl)
      (x := ([.nil, .agg [.lit (.int .i64 0), .nil, .lit (.bool false), .lit (.bool false)], .nil, .lit (.int .i64 0), .lit (.int .i64 0)], [], [])) (by kernel_rfl) rfl (by kernel_rfl)) ?_
  intro W base args ds gs before hval0 hW _ hk _
  show Calls Try.prog 9 args W fun e W' => ∃ v, e = .returned v ∧ Rows.vmStopsSpec.post enc Try.prog Try.f9 false true false false W args v W'
  have hval : ∀ (j : Nat) t v, Try.f9.params[j]? = some t → args[j]? = some v → Value.okWide Try.prog W .any base t v := hval0
  have hW' := hW
  have hlt := hW.lt
  obtain ⟨p, q, hA0, hV, rfl, hfz, hnd⟩ := hW
  have hA : DataW.TrodAll enc Try.prog W 0 (fun _ => true) true Try.f9.params.toList args.toList ds p := hA0
  have hA1 := hA
  rw [Try.params9] at hA hval
  obtain ⟨v0, vs0, d0, ds0, p0, q0, hargs, rfl, rfl, h0, r0⟩ := trodAll_cons hA
  obtain ⟨v1, vs1, d1, ds1, p1, q1, rfl, rfl, rfl, h1, r1⟩ := trodAll_cons r0
  obtain ⟨v2, vs2, d2, ds2, p2, q2, rfl, rfl, rfl, h2, r2⟩ := trodAll_cons r1
  obtain ⟨v3, vs3, d3, ds3, p3, q3, rfl, rfl, rfl, h3, r3⟩ := trodAll_cons r2
  obtain ⟨v4, vs4, d4, ds4, p4, q4, rfl, rfl, rfl, h4, r4⟩ := trodAll_cons r3
  obtain ⟨rfl, rfl, rfl⟩ := trodAll_nil r4
  obtain rfl : args = #[v0, v1, v2, v3, v4] := by cases args; simp_all
  obtain ⟨rfl, rfl⟩ := trodVars_none hV
  obtain ⟨z0, z'0, z''0, rfl⟩ := okWide_slice Try.underlying42 (hval 0 42 v0 rfl rfl)
  obtain ⟨y0, u0, b0, e0⟩ := arg_leaf (α := (List Ins)) (opn_slice Try.underlying42 (by kernel_rfl) (by decide) opn_Ins) rfl h0
  obtain ⟨cs1, rfl, _⟩ := okWide_struct Try.underlying45 (hval 1 45 v1 rfl rfl)
  obtain ⟨y1, u1, b1, e1⟩ := arg_agg (α := Vm) opn_Vm h1
  obtain ⟨z2, z'2, z''2, rfl⟩ := okWide_slice Try.underlying43 (hval 2 43 v2 rfl rfl)
  obtain ⟨y2, u2, b2, e2⟩ := arg_leaf (α := (List Int)) (opn_slice Try.underlying43 (by kernel_rfl) (by decide) (opn_int Try.underlying3)) rfl h2
  obtain ⟨z3, rfl⟩ := okWide_int Try.underlying3 (hval 3 3 v3 rfl rfl)
  obtain ⟨y3, u3, b3, e3⟩ := arg_leaf (α := Int) (opn_int Try.underlying3) rfl h3
  obtain ⟨z4, rfl⟩ := okWide_int Try.underlying3 (hval 4 3 v4 rfl rfl)
  obtain ⟨y4, u4, b4, e4⟩ := arg_leaf (α := Int) (opn_int Try.underlying3) rfl h4
  have hB : Siz.bulk y0 + Siz.bulk y1 + Siz.bulk y2 + Siz.bulk y3 + Siz.bulk y4 ≤ 1048576 := by
    have h := of_decide_eq_true hk
    rw [vstops_bL] at h
    simp only [List.append_nil, bulkL] at h
    omega
  have hR := repL_cons (M := fun _ => False) (β := fun _ => none) (cp := fun _ => 0) (.c e0) (repL_cons (M := fun _ => False) (β := fun _ => none) (cp := fun _ => 0) (.c e1) (repL_cons (M := fun _ => False) (β := fun _ => none) (cp := fun _ => 0) (.c e2) (repL_cons (M := fun _ => False) (β := fun _ => none) (cp := fun _ => 0) (.c e3) (repL_cons (M := fun _ => False) (β := fun _ => none) (cp := fun _ => 0) (.c e4) (repL_nil)))))
  refine (law_callsA (vstops_vc y0 y1 y2 y3 y4 u0 u1 u2 u3 u4 hB) hR).mono fun e W' ⟨he, bel⟩ => ?_
  subst he
  exact ⟨_, rfl, _, _, _, [], _, [], hW', trodAll_mk1 (shut_bool Try.underlying4 _), trodAll_below vstops_laidOut bel (vstops_readOk (by kernel_rfl)) (fun x hx => hlt x (List.mem_append_left _ hx)) hA1, rfl, bel.frame _, fun h => by cases h⟩
theorem VmStops_proved : Rows.VmStopsUptoSaid :=
  OpenClaim.holds_of_cond 9 Try.f9 rfl rfl rfl rfl rfl rfl rfl ⟨rfl, rfl, rfl, rfl, rfl⟩ rfl rfl rfl rfl rfl (by kernel_rfl) Try.func9 (by kernel_rfl)
    (of_decide_eq_true (by kernel_rfl)) (by unfold Func.isWrapper; first | (rw [if_pos (by decide +kernel)]; kernel_rfl) | (rw [if_neg (by decide +kernel)]; exact ⟨rfl, rfl⟩))
    (fun os started H enc _ F => vstops_lifted os started H enc F)
end

end Go.Proofs.Ytjgobknjnjdphaa
