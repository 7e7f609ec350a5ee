/- Some ticks, and more of them, are all of them at once; for all inputs. -/
import Derived.Test.YtbnpacdkllmblaaPartX
set_option linter.all false
namespace Go.Proofs.Ytbnpacdkllmblaa
open Go Go.Abs

attribute [local irreducible] runPV
noncomputable def cPtC : FuncId → Con := fun f => match f with
  | 18 => pureCon (detPC runC_D)
  | 10 => pureCon (detPC ptLives_D)
  | 19 => pureCon (detPC sameM_D)
  | _ => fun _ _ _ => Bad 1001
theorem cPtC_ok : ConOk Try.prog cPtC := fun f A H K h => by
  unfold cPtC at h
  split at h
  · exact ⟨⟨Try.f18, Try.func18, by kernel_rfl, by kernel_rfl⟩, pureCon_ok runC_ok h⟩
  · exact ⟨⟨Try.f10, Try.func10, by kernel_rfl, by kernel_rfl⟩, pureCon_ok ptLives_ok h⟩
  · exact ⟨⟨Try.f19, Try.func19, by kernel_rfl, by kernel_rfl⟩, pureCon_ok sameM_ok h⟩
  · cases h
set_option maxRecDepth 100000 in
set_option maxHeartbeats 4000000 in
theorem ptcuts_vc (m : Module) (a : Int) (b : Int) (fit_m : Siz.fit m) (fit_a : Siz.fit a) (fit_b : Siz.fit b) (hB : Siz.bulk m + Siz.bulk a + Siz.bulk b ≤ 1048576) : FnOk Try.prog 4 [.agg (Dat.enc fun _ => m), .i .i64 fun _ => a, .i .i64 fun _ => b] [] (outA (.bc true) []) := by
  refine fn_ok envOk zl cPtC_ok noDraws_ok (keep := [0, 1, 2, 3, 6, 7, 8, 9, 10, 11, 12, 40]) Try.func4 rfl ?_
  have fin := @fin_b
  have finc := @fin_t
  have hpm := fit_pre fit_m
  generalize outA (.bc true) [] = K at fin finc
  cbv
  repeat' first | (show Stp _; exfalso; first | omega | (exact h ‹_›) | (exact absurd ‹_› h) | (exact Bool.false_ne_true (h.symm.trans (show _ = true by assumption)))) | (refine Stp.mk ?_; cbv) | (refine Gen.mk fun r hr => ?_; (try simp only [Dat.ok, Dat.dec, Leaf.ok, Leaf.val, Window.eta, Table.eta, Ins.eta, Vm.eta, Emit.eta, Part.eta, Wire.eta, Module.eta, val_sl, val_nil] at hr); cbv) | exact trivial | rfl | refine Both.mk ?_ ?_ | (refine Imp.mk fun h => ?_; (try dsimp only at h); (try simp only [nc, Int.toNat_natCast, ne_eq, zz] at h); (try simp only [nc] at h)) | refine Ob.mk ?_ ?_ | refine Chk.mk (by kernel_rfl) ?_ | refine Eq'.mk ?_ | (refine AllN.mk fun i hi => ?_; cbv) | (refine AllC.mk fun c hc hcm => ?_; (try dsimp only at hc); cbv) | (refine AllS.mk fun r hr => ?_; (try simp only [Dat.ok, Dat.dec, Leaf.ok, Leaf.val, Window.eta, Table.eta, Ins.eta, Vm.eta, Emit.eta, Part.eta, Wire.eta, Module.eta, val_sl] at hr); cbv)
  all_goals ((try dsimp only at *); (try simp only [nc, Int.toNat_natCast, ne_eq, zz] at *); (try simp only [nc] at *))
  all_goals try simp only [Dat.dec, Leaf.val, Window.eta, Table.eta, Ins.eta, Vm.eta, Emit.eta, Part.eta, Wire.eta, Module.eta, val_sl] at *
  all_goals first
    | exact ⟨Dat.hok fun _ => m, hpm⟩
    | exact ⟨Dat.hok fun _ => (runPV m a).1, run_pre m a⟩
    | exact ⟨Dat.hok fun _ => (runPV (runPV m a).1 b).1, Dat.hok fun _ => (runPV m (a + b)).1, run_pre _ b⟩
    | exact finc
    | (have e1 := runP_ok (show (runPV m a).2 = 0 by assumption)
       have e2 := runP_ok (show (runPV (runPV m a).1 b).2 = 0 by assumption)
       first
         | (unfold InR; omega)
         | (have e3 := run_cut (show (runPV m a).2 = 0 by assumption) (by assumption) (by assumption)
            first
              | (refine fin ?_
                 show decide (_ = _) = true
                 rw [e3]
                 exact decide_eq_true rfl)
              | (exfalso
                 have h9 : ¬ (runPV m (a + b)).2 = 0 := by assumption
                 rw [e3] at h9
                 exact h9 (by assumption))))
    | fail
section
open Go.ChangeShapes Go.WideShapes Go.ChangeAt Go.RowKit Go.Joins Go.Deep
set_option linter.unusedVariables false
theorem ptcuts_own : ownKnob Try.prog.godebug = none := by kernel_rfl
theorem ptcuts_laidOut : laidOutB Try.prog = true := by kernel_rfl
theorem ptcuts_readOk {ts : Array TypeId} (h : ts.toList.all (fun t => Try.prog.readableRec t && decide (t < Try.prog.types.size)) = true) : ∀ t ∈ ts.toList, Try.prog.readableRec t = true ∧ t < Try.prog.types.size := fun t ht => by
  have := List.all_eq_true.1 h t ht
  simpa using this
mutual
theorem ptcuts_bD {H : Type} : ∀ d : DataW H, Rows.uptoBulk d = bulkD d
  | .lit l => by cases l <;> simp [Rows.uptoBulk, bulkD]
  | .nil => by simp [Rows.uptoBulk, bulkD]
  | .ptr d => by simp [Rows.uptoBulk, bulkD, ptcuts_bD d]
  | .slice a b => by simp [Rows.uptoBulk, bulkD, ptcuts_bL a, ptcuts_bL b]
  | .agg a => by simp [Rows.uptoBulk, bulkD, ptcuts_bL a]
  | .iface _ d => by simp [Rows.uptoBulk, bulkD, ptcuts_bD d]
  | .map e => by simp [Rows.uptoBulk, bulkD, ptcuts_bE e]
  | .held _ => by simp [Rows.uptoBulk, bulkD]
theorem ptcuts_bL {H : Type} : ∀ d : List (DataW H), Rows.uptoBulkAll d = bulkL d
  | [] => by simp [Rows.uptoBulkAll, bulkL]
  | d :: r => by simp [Rows.uptoBulkAll, bulkL, ptcuts_bD d, ptcuts_bL r]
theorem ptcuts_bE {H : Type} : ∀ d : List (Lit × DataW H), Rows.uptoBulkEntries d = bulkE d
  | [] => by simp [Rows.uptoBulkEntries, bulkE]
  | d :: r => by simp [Rows.uptoBulkEntries, bulkE, ptcuts_bX d, ptcuts_bE r]
theorem ptcuts_bX {H : Type} : ∀ d : Lit × DataW H, Rows.uptoBulkEntry d = bulkX d
  | (l, d) => by cases l <;> simp [Rows.uptoBulkEntry, bulkX, ptcuts_bD d]
end
set_option maxRecDepth 100000 in
theorem ptcuts_lifted (os : Os) (started : os.Started) (H : Type) (enc : TypeId × Value → H) (F : Stop.Interp) :
    ReturnsInHanded {} Try.checked os 4 .any ((Rows.OpenSpec.upto Rows.partsCutsSpec).pre6 enc Try.prog Try.f4 Rows.partsCutsUptoRow.domain false) (((Rows.OpenSpec.upto Rows.partsCutsSpec).at F).post enc Try.prog Try.f4 false true false false) := by
  refine returnsInHanded_of_cond (C := Try.checked) (s := Rows.OpenSpec.upto Rows.partsCutsSpec) (k := Rows.uptoSmall) rfl ptcuts_own started (by kernel_rfl) Try.func4
    (OpenSpec.witness (enc := enc) (C := Try.checked) (s := Rows.OpenSpec.upto Rows.partsCutsSpec) (k := Rows.uptoSmall) rfl false ⟨#[], #[.agg #[.int .i64 0, .slice none 0 0, .slice none 0 0, .slice none 0 0, .int .i64 0, .int .i64 0], .int .i64 0, .int .i64 0], []⟩ 8 (by kernel_rfl) (by kernel_rfl) (by kernel_rfl)
      (x := ([.agg [.agg [.lit (.int .i64 0), .nil], .nil, .nil, .lit (.int .i64 0), .lit (.int .i64 0)], .lit (.int .i64 0), .lit (.int .i64 0)], [], [])) (by kernel_rfl) rfl (by kernel_rfl)) ?_
  intro W base args ds gs before hval0 hW _ hk _
  show Calls Try.prog 4 args W fun e W' => ∃ v, e = .returned v ∧ Rows.partsCutsSpec.post enc Try.prog Try.f4 false true false false W args v W'
  have hval : ∀ (j : Nat) t v, Try.f4.params[j]? = some t → args[j]? = some v → Value.okWide Try.prog W .any base t v := hval0
  have hW' := hW
  have hlt := hW.lt
  obtain ⟨p, q, hA0, hV, rfl, hfz, hnd⟩ := hW
  have hA : DataW.TrodAll enc Try.prog W 0 (fun _ => true) true Try.f4.params.toList args.toList ds p := hA0
  have hA1 := hA
  rw [Try.params4] at hA hval
  obtain ⟨v0, vs0, d0, ds0, p0, q0, hargs, rfl, rfl, h0, r0⟩ := trodAll_cons hA
  obtain ⟨v1, vs1, d1, ds1, p1, q1, rfl, rfl, rfl, h1, r1⟩ := trodAll_cons r0
  obtain ⟨v2, vs2, d2, ds2, p2, q2, rfl, rfl, rfl, h2, r2⟩ := trodAll_cons r1
  obtain ⟨rfl, rfl, rfl⟩ := trodAll_nil r2
  obtain rfl : args = #[v0, v1, v2] := by cases args; simp_all
  obtain ⟨rfl, rfl⟩ := trodVars_none hV
  obtain ⟨cs0, rfl, _⟩ := okWide_struct Try.underlying28 (hval 0 28 v0 rfl rfl)
  obtain ⟨y0, u0, b0, e0⟩ := arg_agg (α := Module) opn_Module h0
  obtain ⟨z1, rfl⟩ := okWide_int Try.underlying3 (hval 1 3 v1 rfl rfl)
  obtain ⟨y1, u1, b1, e1⟩ := arg_leaf (α := Int) (opn_int Try.underlying3) rfl h1
  obtain ⟨z2, rfl⟩ := okWide_int Try.underlying3 (hval 2 3 v2 rfl rfl)
  obtain ⟨y2, u2, b2, e2⟩ := arg_leaf (α := Int) (opn_int Try.underlying3) rfl h2
  have hB : Siz.bulk y0 + Siz.bulk y1 + Siz.bulk y2 ≤ 1048576 := by
    have h := of_decide_eq_true hk
    rw [ptcuts_bL] at h
    simp only [List.append_nil, bulkL] at h
    omega
  have hR := repL_cons (M := fun _ => False) (β := fun _ => none) (cp := fun _ => 0) (.c e0) (repL_cons (M := fun _ => False) (β := fun _ => none) (cp := fun _ => 0) (.c e1) (repL_cons (M := fun _ => False) (β := fun _ => none) (cp := fun _ => 0) (.c e2) (repL_nil)))
  refine (law_callsA (ptcuts_vc y0 y1 y2 u0 u1 u2 hB) hR).mono fun e W' ⟨he, bel⟩ => ?_
  subst he
  exact ⟨_, rfl, _, _, _, [], _, [], hW', trodAll_mk1 (shut_bool Try.underlying4 _), trodAll_below ptcuts_laidOut bel (ptcuts_readOk (by kernel_rfl)) (fun x hx => hlt x (List.mem_append_left _ hx)) hA1, rfl, bel.frame _, fun h => by cases h⟩
theorem PartsCuts_proved : Rows.PartsCutsUptoSaid :=
  OpenClaim.holds_of_cond 4 Try.f4 rfl rfl rfl rfl rfl rfl rfl ⟨rfl, rfl, rfl, rfl, rfl⟩ rfl rfl rfl rfl rfl (by kernel_rfl) Try.func4 (by kernel_rfl)
    (of_decide_eq_true (by kernel_rfl)) (by unfold Func.isWrapper; first | (rw [if_pos (by decide +kernel)]; kernel_rfl) | (rw [if_neg (by decide +kernel)]; exact ⟨rfl, rfl⟩))
    (fun os started H enc _ F => ptcuts_lifted os started H enc F)
end

end Go.Proofs.Ytbnpacdkllmblaa
