/- A tick changes nothing of those whose time it isn't, but what is put at the end of their boxes; and a right module is right behind it; for all inputs. -/
import Derived.Test.YtbnpacdkllmblaaPartY
set_option linter.all false
namespace Go.Proofs.Ytbnpacdkllmblaa
open Go Go.Abs

structure PtX (n : Nat) where
  k : Nat
  hk : k ≤ n
attribute [local irreducible] runPV
noncomputable def cPtT : FuncId → Con := fun f => match f with
  | 9 => pureCon (detPC tickC_D)
  | 10 => pureCon (detPC ptLives_D)
  | 11 => pureCon (detPC wowner_D)
  | 12 => pureCon (detPC mchkC_D)
  | 13 => pureCon (detPC sameT_D)
  | 14 => pureCon (detPC eqWire_D)
  | 15 => pureCon (detPC eqIns_D)
  | 16 => pureCon (detPC sameV_D)
  | 17 => pureCon (detPC eqInt_D)
  | _ => fun _ _ _ => Bad 1001
theorem cPtT_ok : ConOk Try.prog cPtT := fun f A H K h => by
  unfold cPtT at h
  split at h
  · exact ⟨⟨Try.f9, Try.func9, by kernel_rfl, by kernel_rfl⟩, pureCon_ok tickC_ok h⟩
  · exact ⟨⟨Try.f10, Try.func10, by kernel_rfl, by kernel_rfl⟩, pureCon_ok ptLives_ok h⟩
  · exact ⟨⟨Try.f11, Try.func11, by kernel_rfl, by kernel_rfl⟩, pureCon_ok wowner_ok h⟩
  · exact ⟨⟨Try.f12, Try.func12, by kernel_rfl, by kernel_rfl⟩, pureCon_ok mchkC_ok h⟩
  · exact ⟨⟨Try.f13, Try.func13, by kernel_rfl, by kernel_rfl⟩, pureCon_ok sameT_ok h⟩
  · exact ⟨⟨Try.f14, Try.func14, by kernel_rfl, by kernel_rfl⟩, pureCon_ok eqWire_ok h⟩
  · exact ⟨⟨Try.f15, Try.func15, by kernel_rfl, by kernel_rfl⟩, pureCon_ok eqIns_ok h⟩
  · exact ⟨⟨Try.f16, Try.func16, by kernel_rfl, by kernel_rfl⟩, pureCon_ok sameV_ok h⟩
  · exact ⟨⟨Try.f17, Try.func17, by kernel_rfl, by kernel_rfl⟩, pureCon_ok eqInt_ok h⟩
  · cases h
def dPtT : FuncId → Option Dt := fun f => match f with
  | 16 => some (.c sameV_D)
  | 17 => some (.c eqInt_D)
  | _ => none
theorem dPtT_ok : DetOk Try.prog dPtT := fun f d h => by
  unfold dPtT at h
  split at h
  · cases h; exact ⟨⟨Try.f16, Try.func16, by kernel_rfl, by kernel_rfl⟩, sameV_ok⟩
  · cases h; exact ⟨⟨Try.f17, Try.func17, by kernel_rfl, by kernel_rfl⟩, eqInt_ok⟩
  · cases h
set_option maxRecDepth 100000 in
set_option maxHeartbeats 4000000 in
theorem ptturn_vc (m : Module) (fit_m : Siz.fit m) (hB : Siz.bulk m ≤ 1048576) : FnOk Try.prog 3 [.agg (Dat.enc fun _ => m)] [] (outA (.bc true) []) := by
  refine fn_ok envOk zl cPtT_ok (draws_ok envOk zl dPtT_ok mixed) (keep := [0, 1, 2, 3, 4, 5, 6, 7, 8, 9, 20, 76, 78, 79, 80, 81, 95, 98, 125]) Try.func3 rfl ?_
  have fin := @fin_b
  have finc := @fin_t
  have hpm := fit_pre fit_m
  generalize outA (.bc true) [] = K at fin finc
  cbv
  repeat' first | (show Stp _; exfalso; first | omega | (exact h ‹_›) | (exact absurd ‹_› h) | (exact Bool.false_ne_true (h.symm.trans (show _ = true by assumption)))) | (refine Stp.mk ?_; cbv) | (refine Gen.mk fun r hr => ?_; (try simp only [Dat.ok, Dat.dec, Leaf.ok, Leaf.val, Window.eta, Table.eta, Ins.eta, Vm.eta, Emit.eta, Part.eta, Wire.eta, Module.eta, val_sl, val_nil] at hr); cbv) | exact trivial | rfl | refine Both.mk ?_ ?_ | (refine Imp.mk fun h => ?_; (try dsimp only at h); (try simp only [nc, Int.toNat_natCast, ne_eq, zz] at h); (try simp only [nc] at h)) | refine Ob.mk ?_ ?_ | refine Chk.mk (by kernel_rfl) ?_ | refine Eq'.mk ?_ | (refine AllN.mk fun i hi => ?_; cbv) | (refine AllC.mk fun c hc hcm => ?_; (try dsimp only at hc); cbv) | (refine AllS.mk fun r hr => ?_; (try simp only [Dat.ok, Dat.dec, Leaf.ok, Leaf.val, Window.eta, Table.eta, Ins.eta, Vm.eta, Emit.eta, Part.eta, Wire.eta, Module.eta, val_sl] at hr); cbv)
  all_goals ((try dsimp only at *); (try simp only [nc, Int.toNat_natCast, ne_eq, zz] at *); (try simp only [nc] at *))
  all_goals try simp only [Dat.dec, Leaf.val, Window.eta, Table.eta, Ins.eta, Vm.eta, Emit.eta, Part.eta, Wire.eta, Module.eta, val_sl] at *
  all_goals try first
    | exact ⟨Dat.hok fun _ => m, hpm⟩
    | exact finc
  all_goals have h0 : (runPV m 1).2 = 0 := by assumption
  all_goals have R := run_one h0
  all_goals have eS : tickC_S m = ((tickV m).1, 0) := R.2.2
  all_goals have M := mchk_iff.1 R.1
  all_goals have T := tick_ok M R.2.1
  all_goals have O := owner_ok M.t M.now.1 M.now.2
  all_goals have G := fun i => tick_turn R.2.1 i
  all_goals simp only [eS] at *
  all_goals clear h0
  all_goals have N := M.now
  all_goals have g := tick_go R.2.1
  all_goals clear R
  all_goals generalize (tickV m).1 = a at *
  all_goals obtain ⟨A, T1, T2, T3, T4, T5⟩ := T
  all_goals have pa := ok_pre A
  all_goals try first
    | exact ⟨Dat.hok fun _ => m.table, hpm.1⟩
    | exact ⟨Dat.hok fun _ => a, pa⟩
    | exact ⟨Dat.hok fun _ => a.table, Dat.hok fun _ => m.table, pa.1⟩
    | exact ⟨⟨rfl, fun i _ => Dat.hok _⟩, ⟨rfl, fun i _ => Dat.hok _⟩, pa.2.2.1⟩
    | (unfold InR; omega)
    | (exfalso; exact absurd O (by assumption))
    | (exfalso; exact absurd (mchk_iff.2 A) (by assumption))
    | (exfalso; have h9 : ¬ (a.parts.length : Int) = m.parts.length := by assumption
       omega)
    | (exfalso; exact absurd T1 (by assumption))
    | (exfalso; omega)
    | (exfalso; have h9 : sameT_S a.table m.table = false := by assumption
       exact of_decide_eq_false h9 T2)
    | (exfalso; have h9 : eqWire_S a.wires m.wires = false := by assumption
       exact of_decide_eq_false h9 T3)
  refine LoopVC.frame [2, 7, 8, 9, 80, 81, 95, 98, 125] (PtX m.parts.length) (fun x => [(80, .i .i64 fun _ => x.k)]) (fun _ => []) [] (fun x => m.parts.length - x.k) ⟨0, Nat.zero_le _⟩ rfl (fun _ => rfl) ?_ ?_ fun ⟨k, hk⟩ => ?_
  iterate 2
    · cbv
      repeat' first | (refine Stp.mk ?_; cbv) | (refine Gen.mk fun r hr => ?_; (try simp only [Dat.ok, Dat.dec, Leaf.ok, Leaf.val, Window.eta, Table.eta, Ins.eta, Vm.eta, Emit.eta, Part.eta, Wire.eta, Module.eta, val_sl, val_nil] at hr); cbv) | exact trivial | rfl | refine Both.mk ?_ ?_ | (refine Imp.mk fun h => ?_; (try dsimp only at h); (try simp only [nc, Int.toNat_natCast, ne_eq, zz] at h); (try simp only [nc] at h)) | refine Ob.mk ?_ ?_ | refine Chk.mk (by kernel_rfl) ?_ | refine Eq'.mk ?_ | (refine AllN.mk fun i hi => ?_; cbv) | (refine AllC.mk fun c hc hcm => ?_; (try dsimp only at hc); cbv) | (refine AllS.mk fun r hr => ?_; (try simp only [Dat.ok, Dat.dec, Leaf.ok, Leaf.val, Window.eta, Table.eta, Ins.eta, Vm.eta, Emit.eta, Part.eta, Wire.eta, Module.eta, val_sl] at hr); cbv)
  have G := G k
  have lp := M.lp
  have pm := fun (h : k < m.parts.length) => hpm.2.2.2 _ (show m.parts.getD k Dat.d0 ∈ m.parts by rw [List.getD_eq_getElem?_getD, List.getElem?_eq_getElem h]; exact List.getElem_mem h)
  have qm := fun (h : k < a.parts.length) => pa.2.2.2 _ (show a.parts.getD k Dat.d0 ∈ a.parts by rw [List.getD_eq_getElem?_getD, List.getElem?_eq_getElem h]; exact List.getElem_mem h)
  cbv
  repeat' first | (show Stp _; exfalso; first | omega | (exact h ‹_›) | (exact absurd ‹_› h) | (exact Bool.false_ne_true (h.symm.trans (show _ = true by assumption)))) | (refine Stp.mk ?_; cbv) | (refine Gen.mk fun r hr => ?_; (try simp only [Dat.ok, Dat.dec, Leaf.ok, Leaf.val, Window.eta, Table.eta, Ins.eta, Vm.eta, Emit.eta, Part.eta, Wire.eta, Module.eta, val_sl, val_nil] at hr); cbv) | exact trivial | rfl | refine Both.mk ?_ ?_ | (refine Imp.mk fun h => ?_; (try dsimp only at h); (try simp only [nc, Int.toNat_natCast, ne_eq, zz] at h); (try simp only [nc] at h)) | refine Ob.mk ?_ ?_ | refine Chk.mk (by kernel_rfl) ?_ | refine Eq'.mk ?_ | (refine AllN.mk fun i hi => ?_; cbv) | (refine AllC.mk fun c hc hcm => ?_; (try dsimp only at hc); cbv) | (refine AllS.mk fun r hr => ?_; (try simp only [Dat.ok, Dat.dec, Leaf.ok, Leaf.val, Window.eta, Table.eta, Ins.eta, Vm.eta, Emit.eta, Part.eta, Wire.eta, Module.eta, val_sl] at hr); cbv)
  all_goals ((try dsimp only at *); (try simp only [nc, Int.toNat_natCast, ne_eq, zz] at *); (try simp only [nc] at *))
  all_goals try rw [nc] at *
  all_goals try simp only [Dat.dec, Leaf.val, Window.eta, Table.eta, Ins.eta, Vm.eta, Emit.eta, Part.eta, Wire.eta, Module.eta, val_sl] at *
  all_goals first
    | omega
    | (unfold InR; omega)
    | exact ⟨by omega, by omega⟩
    | exact ⟨by omega, by omega, by omega⟩
    | exact finc
    | exact ⟨⟨rfl, fun i _ => Dat.hok _⟩, ⟨rfl, fun i _ => Dat.hok _⟩, (pm (by omega)).1⟩
    | exact ⟨Dat.hok fun _ => (m.parts.getD k Dat.d0).vm, Dat.hok fun _ => (a.parts.getD k Dat.d0).vm, (pm (by omega)).2.1⟩
    | (exfalso; have h9 : eqIns_S (m.parts.getD k Dat.d0).code (a.parts.getD k Dat.d0).code = false := by assumption
       exact of_decide_eq_false h9 G.1.symm)
    | (obtain ⟨G1, G2, e, G3⟩ := G.2 (by assumption)
       have G4 := congrArg List.length G3
       rw [List.length_append] at G4
       first
         | (exfalso; omega)
         | (exfalso; have h9 : sameV_S (m.parts.getD k Dat.d0).vm (a.parts.getD k Dat.d0).vm = false := by assumption
            exact of_decide_eq_false h9 G2.symm)
         | exact ⟨⟨rfl, fun i _ => Dat.hok _⟩, ⟨rfl, fun i _ => Dat.hok _⟩, by show (slV (cutA (a.parts.getD k Dat.d0).box (m.parts.getD k Dat.d0).box) : List Int).length ≤ _; rw [cut_val G3]; exact (pm (by omega)).2.2⟩
         | (exfalso; have h9 : eqInt_S (slV (cutA (a.parts.getD k Dat.d0).box (m.parts.getD k Dat.d0).box)) (m.parts.getD k Dat.d0).box = false := by assumption
            exact of_decide_eq_false h9 (cut_val G3)))
    | (refine ⟨⟨k + 1, by omega⟩, ?_, ?_, rfl, by (try dsimp only); omega⟩
       · cbv
         repeat' first | (refine Stp.mk ?_; cbv) | (refine Gen.mk fun r hr => ?_; (try simp only [Dat.ok, Dat.dec, Leaf.ok, Leaf.val, Window.eta, Table.eta, Ins.eta, Vm.eta, Emit.eta, Part.eta, Wire.eta, Module.eta, val_sl, val_nil] at hr); cbv) | exact trivial | rfl | refine Both.mk ?_ ?_ | (refine Imp.mk fun h => ?_; (try dsimp only at h); (try simp only [nc, Int.toNat_natCast, ne_eq, zz] at h); (try simp only [nc] at h)) | refine Ob.mk ?_ ?_ | refine Chk.mk (by kernel_rfl) ?_ | refine Eq'.mk ?_ | (refine AllN.mk fun i hi => ?_; cbv) | (refine AllC.mk fun c hc hcm => ?_; (try dsimp only at hc); cbv) | (refine AllS.mk fun r hr => ?_; (try simp only [Dat.ok, Dat.dec, Leaf.ok, Leaf.val, Window.eta, Table.eta, Ins.eta, Vm.eta, Emit.eta, Part.eta, Wire.eta, Module.eta, val_sl] at hr); cbv)
       · cbv
         repeat' first | (refine Stp.mk ?_; cbv) | (refine Gen.mk fun r hr => ?_; (try simp only [Dat.ok, Dat.dec, Leaf.ok, Leaf.val, Window.eta, Table.eta, Ins.eta, Vm.eta, Emit.eta, Part.eta, Wire.eta, Module.eta, val_sl, val_nil] at hr); cbv) | exact trivial | rfl | refine Both.mk ?_ ?_ | (refine Imp.mk fun h => ?_; (try dsimp only at h); (try simp only [nc, Int.toNat_natCast, ne_eq, zz] at h); (try simp only [nc] at h)) | refine Ob.mk ?_ ?_ | refine Chk.mk (by kernel_rfl) ?_ | refine Eq'.mk ?_ | (refine AllN.mk fun i hi => ?_; cbv) | (refine AllC.mk fun c hc hcm => ?_; (try dsimp only at hc); cbv) | (refine AllS.mk fun r hr => ?_; (try simp only [Dat.ok, Dat.dec, Leaf.ok, Leaf.val, Window.eta, Table.eta, Ins.eta, Vm.eta, Emit.eta, Part.eta, Wire.eta, Module.eta, val_sl] at hr); cbv))
    | fail
section
open Go.ChangeShapes Go.WideShapes Go.ChangeAt Go.RowKit Go.Joins Go.Deep
set_option linter.unusedVariables false
theorem ptturn_own : ownKnob Try.prog.godebug = none := by kernel_rfl
theorem ptturn_laidOut : laidOutB Try.prog = true := by kernel_rfl
theorem ptturn_readOk {ts : Array TypeId} (h : ts.toList.all (fun t => Try.prog.readableRec t && decide (t < Try.prog.types.size)) = true) : ∀ t ∈ ts.toList, Try.prog.readableRec t = true ∧ t < Try.prog.types.size := fun t ht => by
  have := List.all_eq_true.1 h t ht
  simpa using this
mutual
theorem ptturn_bD {H : Type} : ∀ d : DataW H, Rows.uptoBulk d = bulkD d
  | .lit l => by cases l <;> simp [Rows.uptoBulk, bulkD]
  | .nil => by simp [Rows.uptoBulk, bulkD]
  | .ptr d => by simp [Rows.uptoBulk, bulkD, ptturn_bD d]
  | .slice a b => by simp [Rows.uptoBulk, bulkD, ptturn_bL a, ptturn_bL b]
  | .agg a => by simp [Rows.uptoBulk, bulkD, ptturn_bL a]
  | .iface _ d => by simp [Rows.uptoBulk, bulkD, ptturn_bD d]
  | .map e => by simp [Rows.uptoBulk, bulkD, ptturn_bE e]
  | .held _ => by simp [Rows.uptoBulk, bulkD]
theorem ptturn_bL {H : Type} : ∀ d : List (DataW H), Rows.uptoBulkAll d = bulkL d
  | [] => by simp [Rows.uptoBulkAll, bulkL]
  | d :: r => by simp [Rows.uptoBulkAll, bulkL, ptturn_bD d, ptturn_bL r]
theorem ptturn_bE {H : Type} : ∀ d : List (Lit × DataW H), Rows.uptoBulkEntries d = bulkE d
  | [] => by simp [Rows.uptoBulkEntries, bulkE]
  | d :: r => by simp [Rows.uptoBulkEntries, bulkE, ptturn_bX d, ptturn_bE r]
theorem ptturn_bX {H : Type} : ∀ d : Lit × DataW H, Rows.uptoBulkEntry d = bulkX d
  | (l, d) => by cases l <;> simp [Rows.uptoBulkEntry, bulkX, ptturn_bD d]
end
set_option maxRecDepth 100000 in
theorem ptturn_lifted (os : Os) (started : os.Started) (H : Type) (enc : TypeId × Value → H) (F : Stop.Interp) :
    ReturnsInHanded {} Try.checked os 3 .any ((Rows.OpenSpec.upto Rows.partsTurnSpec).pre6 enc Try.prog Try.f3 Rows.partsTurnUptoRow.domain false) (((Rows.OpenSpec.upto Rows.partsTurnSpec).at F).post enc Try.prog Try.f3 false true false false) := by
  refine returnsInHanded_of_cond (C := Try.checked) (s := Rows.OpenSpec.upto Rows.partsTurnSpec) (k := Rows.uptoSmall) rfl ptturn_own started (by kernel_rfl) Try.func3
    (OpenSpec.witness (enc := enc) (C := Try.checked) (s := Rows.OpenSpec.upto Rows.partsTurnSpec) (k := Rows.uptoSmall) rfl false ⟨#[], #[.agg #[.int .i64 0, .slice none 0 0, .slice none 0 0, .slice none 0 0, .int .i64 0, .int .i64 0]], []⟩ 8 (by kernel_rfl) (by kernel_rfl) (by kernel_rfl)
      (x := ([.agg [.agg [.lit (.int .i64 0), .nil], .nil, .nil, .lit (.int .i64 0), .lit (.int .i64 0)]], [], [])) (by kernel_rfl) rfl (by kernel_rfl)) ?_
  intro W base args ds gs before hval0 hW _ hk _
  show Calls Try.prog 3 args W fun e W' => ∃ v, e = .returned v ∧ Rows.partsTurnSpec.post enc Try.prog Try.f3 false true false false W args v W'
  have hval : ∀ (j : Nat) t v, Try.f3.params[j]? = some t → args[j]? = some v → Value.okWide Try.prog W .any base t v := hval0
  have hW' := hW
  have hlt := hW.lt
  obtain ⟨p, q, hA0, hV, rfl, hfz, hnd⟩ := hW
  have hA : DataW.TrodAll enc Try.prog W 0 (fun _ => true) true Try.f3.params.toList args.toList ds p := hA0
  have hA1 := hA
  rw [Try.params3] at hA hval
  obtain ⟨v0, vs0, d0, ds0, p0, q0, hargs, rfl, rfl, h0, r0⟩ := trodAll_cons hA
  obtain ⟨rfl, rfl, rfl⟩ := trodAll_nil r0
  obtain rfl : args = #[v0] := by cases args; simp_all
  obtain ⟨rfl, rfl⟩ := trodVars_none hV
  obtain ⟨cs0, rfl, _⟩ := okWide_struct Try.underlying28 (hval 0 28 v0 rfl rfl)
  obtain ⟨y0, u0, b0, e0⟩ := arg_agg (α := Module) opn_Module h0
  have hB : Siz.bulk y0 ≤ 1048576 := by
    have h := of_decide_eq_true hk
    rw [ptturn_bL] at h
    simp only [List.append_nil, bulkL] at h
    omega
  have hR := repL_cons (M := fun _ => False) (β := fun _ => none) (cp := fun _ => 0) (.c e0) (repL_nil)
  refine (law_callsA (ptturn_vc y0 u0 hB) hR).mono fun e W' ⟨he, bel⟩ => ?_
  subst he
  exact ⟨_, rfl, _, _, _, [], _, [], hW', trodAll_mk1 (shut_bool Try.underlying4 _), trodAll_below ptturn_laidOut bel (ptturn_readOk (by kernel_rfl)) (fun x hx => hlt x (List.mem_append_left _ hx)) hA1, rfl, bel.frame _, fun h => by cases h⟩
theorem PartsTurn_proved : Rows.PartsTurnUptoSaid :=
  OpenClaim.holds_of_cond 3 Try.f3 rfl rfl rfl rfl rfl rfl rfl ⟨rfl, rfl, rfl, rfl, rfl⟩ rfl rfl rfl rfl rfl (by kernel_rfl) Try.func3 (by kernel_rfl)
    (of_decide_eq_true (by kernel_rfl)) (by unfold Func.isWrapper; first | (rw [if_pos (by decide +kernel)]; kernel_rfl) | (rw [if_neg (by decide +kernel)]; exact ⟨rfl, rfl⟩))
    (fun os started H enc _ F => ptturn_lifted os started H enc F)
end

end Go.Proofs.Ytbnpacdkllmblaa
