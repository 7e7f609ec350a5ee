/- What is out is what was handed and let out, in order, each with its number; for all inputs. -/
import Derived.Test.YtpooooomhnehfaaGateP
set_option linter.all false
namespace Go.Proofs.Ytpooooomhnehfaa
open Go Go.Abs

noncomputable def cGL : FuncId → Con := fun f => match f with
  | 18 => pureCon gplay_C
  | 19 => pureCon (detPC glives_D)
  | 20 => pureCon (detPC eqStr_D)
  | _ => fun _ _ _ => Bad 1001
theorem cGL_ok : ConOk Try.prog cGL := fun f A H K h => by
  unfold cGL at h
  split at h
  · exact ⟨⟨Try.f18, Try.func18, by kernel_rfl, by kernel_rfl⟩, pureCon_ok gplay_ok h⟩
  · exact ⟨⟨Try.f19, Try.func19, by kernel_rfl, by kernel_rfl⟩, pureCon_ok glives_ok h⟩
  · exact ⟨⟨Try.f20, Try.func20, by kernel_rfl, by kernel_rfl⟩, pureCon_ok eqStr_ok h⟩
  · cases h
structure GoX (l : List GateOp) where
  k : Nat
  hk : k ≤ l.length
  want : List ByteArray
  hw : want = (runG g0 (l.take k)).out
set_option maxRecDepth 100000 in
set_option maxHeartbeats 4000000 in
theorem gonce_vc (l : (List GateOp)) (fit_l : Siz.fit l) (hB : Siz.bulk l ≤ 1048576) : FnOk Try.prog 7 [Leaf.av fun _ => l] [] (outA (.bc true) []) := by
  refine fn_ok envOk zl cGL_ok noDraws_ok (keep := [0, 2, 3, 4, 5, 6, 7, 8, 27, 33, 34, 35, 36, 49, 55]) Try.func7 rfl ?_
  have fin := @fin_b
  have finc := @fin_t
  generalize outA (.bc true) [] = K at fin finc
  cbv
  repeat' first | (show Stp _; exfalso; first | omega | (exact h ‹_›) | (exact absurd ‹_› h) | (exact Bool.false_ne_true (h.symm.trans (show _ = true by assumption)))) | (refine Stp.mk ?_; cbv) | (refine Gen.mk fun r hr => ?_; (try simp only [Dat.ok, Dat.dec, Leaf.ok, Leaf.val, Fence.eta, Try.eta, Gate.eta, Give.eta, GateOp.eta, GateAns.eta, val_sl, val_nil] at hr); cbv) | exact trivial | rfl | refine Both.mk ?_ ?_ | (refine Imp.mk fun h => ?_; (try dsimp only at h); (try simp only [nc, Int.toNat_natCast, Bool.not_eq_true', Bool.not_eq_false', decide_eq_true_eq, decide_eq_false_iff_not, beq_iff_eq, beq_eq_false_iff_ne, ba_inj, bne_iff_ne, ne_eq, Bool.and_eq_true, Bool.or_eq_true, Bool.and_eq_false_iff, Bool.or_eq_false_iff, Int.not_le, Int.not_lt, Nat.not_le, Nat.not_lt] at h); (try simp only [nc] at h)) | refine Ob.mk ?_ ?_ | refine Chk.mk (by kernel_rfl) ?_ | refine Eq'.mk ?_ | (refine AllN.mk fun i hi => ?_; cbv) | (refine AllS.mk fun r hr => ?_; (try simp only [Dat.ok, Dat.dec, Leaf.ok, Leaf.val, Fence.eta, Try.eta, Gate.eta, Give.eta, GateOp.eta, GateAns.eta, val_sl] at hr); cbv)
  all_goals ((try dsimp only at *); (try simp only [nc, Int.toNat_natCast, Bool.not_eq_true', Bool.not_eq_false', decide_eq_true_eq, decide_eq_false_iff_not, beq_iff_eq, beq_eq_false_iff_ne, ba_inj, bne_iff_ne, ne_eq, Bool.and_eq_true, Bool.or_eq_true, Bool.and_eq_false_iff, Bool.or_eq_false_iff, Int.not_le, Int.not_lt, Nat.not_le, Nat.not_lt] at *); (try simp only [nc] at *))
  all_goals try simp only [Dat.ok, Dat.dec, Leaf.ok, Leaf.val, Fence.eta, Try.eta, Gate.eta, Give.eta, GateOp.eta, GateAns.eta, val_sl] at *
  all_goals first
    | exact ⟨rfl, fun i _ => Dat.hok _⟩
    | (refine fin ?_; simp only [Bool.not_eq_true', beq_eq_false_iff_ne, ne_eq]; assumption)
    | (exfalso
       have q0 : r.2.2 = 0 := by assumption
       have q1 := (playG_ok hr q0).2.2.2
       omega)
    | skip
  obtain ⟨p1, p2, p3, p4⟩ := playG_ok hr (by assumption)
  refine LoopVC.frame [2, 6, 7, 8, 35, 36, 49, 55] (GoX l) (fun x => [(35, .i .i64 fun _ => x.k), (6, .own 3 fun _ => x.want.length)]) (fun x => [(3, vecO 9 fun _ => x.want)]) [3] (fun x => l.length - x.k)
    ⟨0, Nat.zero_le _, [], rfl⟩ rfl (fun _ => rfl) ?_ ?_ fun ⟨k, hk, want, hw⟩ => ?_
  · cbv
    repeat' first | (refine Stp.mk ?_; cbv) | (refine Gen.mk fun r hr => ?_; (try simp only [Dat.ok, Dat.dec, Leaf.ok, Leaf.val, Fence.eta, Try.eta, Gate.eta, Give.eta, GateOp.eta, GateAns.eta, val_sl, val_nil] at hr); cbv) | exact trivial | rfl | refine Both.mk ?_ ?_ | (refine Imp.mk fun h => ?_; (try dsimp only at h); (try simp only [nc, Int.toNat_natCast, Bool.not_eq_true', Bool.not_eq_false', decide_eq_true_eq, decide_eq_false_iff_not, beq_iff_eq, beq_eq_false_iff_ne, ba_inj, bne_iff_ne, ne_eq, Bool.and_eq_true, Bool.or_eq_true, Bool.and_eq_false_iff, Bool.or_eq_false_iff, Int.not_le, Int.not_lt, Nat.not_le, Nat.not_lt] at h); (try simp only [nc] at h)) | refine Ob.mk ?_ ?_ | refine Chk.mk (by kernel_rfl) ?_ | refine Eq'.mk ?_ | (refine AllN.mk fun i hi => ?_; cbv) | (refine AllS.mk fun r hr => ?_; (try simp only [Dat.ok, Dat.dec, Leaf.ok, Leaf.val, Fence.eta, Try.eta, Gate.eta, Give.eta, GateOp.eta, GateAns.eta, val_sl] at hr); cbv)
  · cbv
    repeat' first | (refine Stp.mk ?_; cbv) | (refine Gen.mk fun r hr => ?_; (try simp only [Dat.ok, Dat.dec, Leaf.ok, Leaf.val, Fence.eta, Try.eta, Gate.eta, Give.eta, GateOp.eta, GateAns.eta, val_sl, val_nil] at hr); cbv) | exact trivial | rfl | refine Both.mk ?_ ?_ | (refine Imp.mk fun h => ?_; (try dsimp only at h); (try simp only [nc, Int.toNat_natCast, Bool.not_eq_true', Bool.not_eq_false', decide_eq_true_eq, decide_eq_false_iff_not, beq_iff_eq, beq_eq_false_iff_ne, ba_inj, bne_iff_ne, ne_eq, Bool.and_eq_true, Bool.or_eq_true, Bool.and_eq_false_iff, Bool.or_eq_false_iff, Int.not_le, Int.not_lt, Nat.not_le, Nat.not_lt] at h); (try simp only [nc] at h)) | refine Ob.mk ?_ ?_ | refine Chk.mk (by kernel_rfl) ?_ | refine Eq'.mk ?_ | (refine AllN.mk fun i hi => ?_; cbv) | (refine AllS.mk fun r hr => ?_; (try simp only [Dat.ok, Dat.dec, Leaf.ok, Leaf.val, Fence.eta, Try.eta, Gate.eta, Give.eta, GateOp.eta, GateAns.eta, val_sl] at hr); cbv)
  have hwl : want.length ≤ k := by
    rw [hw]
    have : ∀ k, k ≤ l.length → (runG g0 (l.take k)).out.length ≤ k := by
      intro k
      induction k with
      | zero => intro _; exact Nat.le_refl _
      | succ k ih =>
        intro hk
        rw [runG_snoc (by omega)]
        have := @next_len (runG g0 (l.take k)) (l.getD k Dat.d0)
        have := ih (by omega)
        omega
    exact this k hk
  have hA : k < l.length → r.2.1.getD k Dat.d0 = ⟨(stepG (runG g0 (l.take k)) (l.getD k Dat.d0)).2.1, (stepG (runG g0 (l.take k)) (l.getD k Dat.d0)).2.2⟩ := fun h => by rw [p3]; exact ansG_get h
  have hN := @next_out (runG g0 (l.take k)) (l.getD k Dat.d0)
  rw [← hw] at hN
  have hS : k < l.length → runG g0 (l.take (k + 1)) = nextG (runG g0 (l.take k)) (l.getD k Dat.d0) := fun h => runG_snoc h
  cbv
  repeat' first | (show Stp _; exfalso; first | omega | (exact h ‹_›) | (exact absurd ‹_› h) | (exact Bool.false_ne_true (h.symm.trans (show _ = true by assumption)))) | (refine Stp.mk ?_; cbv) | (refine Gen.mk fun r hr => ?_; (try simp only [Dat.ok, Dat.dec, Leaf.ok, Leaf.val, Fence.eta, Try.eta, Gate.eta, Give.eta, GateOp.eta, GateAns.eta, val_sl, val_nil] at hr); cbv) | exact trivial | rfl | refine Both.mk ?_ ?_ | (refine Imp.mk fun h => ?_; (try dsimp only at h); (try simp only [nc, Int.toNat_natCast, Bool.not_eq_true', Bool.not_eq_false', decide_eq_true_eq, decide_eq_false_iff_not, beq_iff_eq, beq_eq_false_iff_ne, ba_inj, bne_iff_ne, ne_eq, Bool.and_eq_true, Bool.or_eq_true, Bool.and_eq_false_iff, Bool.or_eq_false_iff, Int.not_le, Int.not_lt, Nat.not_le, Nat.not_lt] at h); (try simp only [nc] at h)) | refine Ob.mk ?_ ?_ | refine Chk.mk (by kernel_rfl) ?_ | refine Eq'.mk ?_ | (refine AllN.mk fun i hi => ?_; cbv) | (refine AllS.mk fun r hr => ?_; (try simp only [Dat.ok, Dat.dec, Leaf.ok, Leaf.val, Fence.eta, Try.eta, Gate.eta, Give.eta, GateOp.eta, GateAns.eta, val_sl] at hr); cbv)
  all_goals ((try dsimp only at *); (try simp only [nc, Int.toNat_natCast, Bool.not_eq_true', Bool.not_eq_false', decide_eq_true_eq, decide_eq_false_iff_not, beq_iff_eq, beq_eq_false_iff_ne, ba_inj, bne_iff_ne, ne_eq, Bool.and_eq_true, Bool.or_eq_true, Bool.and_eq_false_iff, Bool.or_eq_false_iff, Int.not_le, Int.not_lt, Nat.not_le, Nat.not_lt] at *); (try simp only [nc] at *))
  all_goals try have hA' := hA (by omega)
  all_goals try have hS' := hS (by omega)
  all_goals try simp only [hA'] at *
  all_goals first
    | omega
    | (unfold InR; omega)
    | exact ⟨Nat.le_refl _, Nat.le_refl _, by omega, by omega⟩
    | (exfalso
       have := hN.2.1 (by assumption) (by assumption)
       omega)
    | (have e := hN.1
       rw [if_pos ⟨by assumption, by assumption⟩] at e
       refine ⟨⟨k + 1, by omega, want ++ [(l.getD k Dat.d0).give.text], by rw [hS', e]⟩, ?_, ?_, rfl, by (try dsimp only); omega⟩
       · cbv
         repeat' first | (refine Stp.mk ?_; cbv) | (refine Gen.mk fun r hr => ?_; (try simp only [Dat.ok, Dat.dec, Leaf.ok, Leaf.val, Fence.eta, Try.eta, Gate.eta, Give.eta, GateOp.eta, GateAns.eta, val_sl, val_nil] at hr); cbv) | exact trivial | rfl | refine Both.mk ?_ ?_ | (refine Imp.mk fun h => ?_; (try dsimp only at h); (try simp only [nc, Int.toNat_natCast, Bool.not_eq_true', Bool.not_eq_false', decide_eq_true_eq, decide_eq_false_iff_not, beq_iff_eq, beq_eq_false_iff_ne, ba_inj, bne_iff_ne, ne_eq, Bool.and_eq_true, Bool.or_eq_true, Bool.and_eq_false_iff, Bool.or_eq_false_iff, Int.not_le, Int.not_lt, Nat.not_le, Nat.not_lt] at h); (try simp only [nc] at h)) | refine Ob.mk ?_ ?_ | refine Chk.mk (by kernel_rfl) ?_ | refine Eq'.mk ?_ | (refine AllN.mk fun i hi => ?_; cbv) | (refine AllS.mk fun r hr => ?_; (try simp only [Dat.ok, Dat.dec, Leaf.ok, Leaf.val, Fence.eta, Try.eta, Gate.eta, Give.eta, GateOp.eta, GateAns.eta, val_sl] at hr); cbv)
         all_goals simp
       · cbv
         repeat' first | (refine Stp.mk ?_; cbv) | (refine Gen.mk fun r hr => ?_; (try simp only [Dat.ok, Dat.dec, Leaf.ok, Leaf.val, Fence.eta, Try.eta, Gate.eta, Give.eta, GateOp.eta, GateAns.eta, val_sl, val_nil] at hr); cbv) | exact trivial | rfl | refine Both.mk ?_ ?_ | (refine Imp.mk fun h => ?_; (try dsimp only at h); (try simp only [nc, Int.toNat_natCast, Bool.not_eq_true', Bool.not_eq_false', decide_eq_true_eq, decide_eq_false_iff_not, beq_iff_eq, beq_eq_false_iff_ne, ba_inj, bne_iff_ne, ne_eq, Bool.and_eq_true, Bool.or_eq_true, Bool.and_eq_false_iff, Bool.or_eq_false_iff, Int.not_le, Int.not_lt, Nat.not_le, Nat.not_lt] at h); (try simp only [nc] at h)) | refine Ob.mk ?_ ?_ | refine Chk.mk (by kernel_rfl) ?_ | refine Eq'.mk ?_ | (refine AllN.mk fun i hi => ?_; cbv) | (refine AllS.mk fun r hr => ?_; (try simp only [Dat.ok, Dat.dec, Leaf.ok, Leaf.val, Fence.eta, Try.eta, Gate.eta, Give.eta, GateOp.eta, GateAns.eta, val_sl] at hr); cbv)
         all_goals ((try dsimp only at *); (try simp only [nc, Int.toNat_natCast, Bool.not_eq_true', Bool.not_eq_false', decide_eq_true_eq, decide_eq_false_iff_not, beq_iff_eq, beq_eq_false_iff_ne, ba_inj, bne_iff_ne, ne_eq, Bool.and_eq_true, Bool.or_eq_true, Bool.and_eq_false_iff, Bool.or_eq_false_iff, Int.not_le, Int.not_lt, Nat.not_le, Nat.not_lt] at *); (try simp only [nc] at *))
         all_goals first
           | (rw [gd_snoc _ _ _ _ hi]; done)
           | (simp; done)
           | fail)
    | (have e := hN.1
       rw [if_neg (by rintro ⟨q1, q2⟩; simp_all)] at e
       refine ⟨⟨k + 1, by omega, want, by rw [hS', e]⟩, ?_, ?_, rfl, by (try dsimp only); omega⟩
       · cbv
         repeat' first | (refine Stp.mk ?_; cbv) | (refine Gen.mk fun r hr => ?_; (try simp only [Dat.ok, Dat.dec, Leaf.ok, Leaf.val, Fence.eta, Try.eta, Gate.eta, Give.eta, GateOp.eta, GateAns.eta, val_sl, val_nil] at hr); cbv) | exact trivial | rfl | refine Both.mk ?_ ?_ | (refine Imp.mk fun h => ?_; (try dsimp only at h); (try simp only [nc, Int.toNat_natCast, Bool.not_eq_true', Bool.not_eq_false', decide_eq_true_eq, decide_eq_false_iff_not, beq_iff_eq, beq_eq_false_iff_ne, ba_inj, bne_iff_ne, ne_eq, Bool.and_eq_true, Bool.or_eq_true, Bool.and_eq_false_iff, Bool.or_eq_false_iff, Int.not_le, Int.not_lt, Nat.not_le, Nat.not_lt] at h); (try simp only [nc] at h)) | refine Ob.mk ?_ ?_ | refine Chk.mk (by kernel_rfl) ?_ | refine Eq'.mk ?_ | (refine AllN.mk fun i hi => ?_; cbv) | (refine AllS.mk fun r hr => ?_; (try simp only [Dat.ok, Dat.dec, Leaf.ok, Leaf.val, Fence.eta, Try.eta, Gate.eta, Give.eta, GateOp.eta, GateAns.eta, val_sl] at hr); cbv)
       · cbv
         repeat' first | (refine Stp.mk ?_; cbv) | (refine Gen.mk fun r hr => ?_; (try simp only [Dat.ok, Dat.dec, Leaf.ok, Leaf.val, Fence.eta, Try.eta, Gate.eta, Give.eta, GateOp.eta, GateAns.eta, val_sl, val_nil] at hr); cbv) | exact trivial | rfl | refine Both.mk ?_ ?_ | (refine Imp.mk fun h => ?_; (try dsimp only at h); (try simp only [nc, Int.toNat_natCast, Bool.not_eq_true', Bool.not_eq_false', decide_eq_true_eq, decide_eq_false_iff_not, beq_iff_eq, beq_eq_false_iff_ne, ba_inj, bne_iff_ne, ne_eq, Bool.and_eq_true, Bool.or_eq_true, Bool.and_eq_false_iff, Bool.or_eq_false_iff, Int.not_le, Int.not_lt, Nat.not_le, Nat.not_lt] at h); (try simp only [nc] at h)) | refine Ob.mk ?_ ?_ | refine Chk.mk (by kernel_rfl) ?_ | refine Eq'.mk ?_ | (refine AllN.mk fun i hi => ?_; cbv) | (refine AllS.mk fun r hr => ?_; (try simp only [Dat.ok, Dat.dec, Leaf.ok, Leaf.val, Fence.eta, Try.eta, Gate.eta, Give.eta, GateOp.eta, GateAns.eta, val_sl] at hr); cbv))
    | (have e : l.take k = l := List.take_of_length_le (by omega)
       rw [e, ← p2] at hw
       first
         | (refine fin ?_
            show decide (_ = _) = true
            simp only [Dat.ok, Dat.dec, Leaf.ok, Leaf.val, Fence.eta, Try.eta, Gate.eta, Give.eta, GateOp.eta, GateAns.eta, val_sl]
            rw [hw]; simp; done)
         | (refine ⟨⟨rfl, fun i _ => Dat.hok _⟩, ⟨rfl, fun i _ => Dat.hok _⟩, ?_⟩
            simp only [Dat.ok, Dat.dec, Leaf.ok, Leaf.val, Fence.eta, Try.eta, Gate.eta, Give.eta, GateOp.eta, GateAns.eta, val_sl]
            show _ ≤ _
            rw [← hw]; omega))
    | fail
section
open Go.ChangeShapes Go.WideShapes Go.ChangeAt Go.RowKit Go.Joins Go.Deep
set_option linter.unusedVariables false
theorem gonce_own : ownKnob Try.prog.godebug = none := by kernel_rfl
theorem gonce_laidOut : laidOutB Try.prog = true := by kernel_rfl
theorem gonce_readOk {ts : Array TypeId} (h : ts.toList.all (fun t => Try.prog.readableRec t && decide (t < Try.prog.types.size)) = true) : ∀ t ∈ ts.toList, Try.prog.readableRec t = true ∧ t < Try.prog.types.size := fun t ht => by
  have := List.all_eq_true.1 h t ht
  simpa using this
mutual
theorem gonce_bD {H : Type} : ∀ d : DataW H, Rows.uptoBulk d = bulkD d
  | .lit l => by cases l <;> simp [Rows.uptoBulk, bulkD]
  | .nil => by simp [Rows.uptoBulk, bulkD]
  | .ptr d => by simp [Rows.uptoBulk, bulkD, gonce_bD d]
  | .slice a b => by simp [Rows.uptoBulk, bulkD, gonce_bL a, gonce_bL b]
  | .agg a => by simp [Rows.uptoBulk, bulkD, gonce_bL a]
  | .iface _ d => by simp [Rows.uptoBulk, bulkD, gonce_bD d]
  | .map e => by simp [Rows.uptoBulk, bulkD, gonce_bE e]
  | .held _ => by simp [Rows.uptoBulk, bulkD]
theorem gonce_bL {H : Type} : ∀ d : List (DataW H), Rows.uptoBulkAll d = bulkL d
  | [] => by simp [Rows.uptoBulkAll, bulkL]
  | d :: r => by simp [Rows.uptoBulkAll, bulkL, gonce_bD d, gonce_bL r]
theorem gonce_bE {H : Type} : ∀ d : List (Lit × DataW H), Rows.uptoBulkEntries d = bulkE d
  | [] => by simp [Rows.uptoBulkEntries, bulkE]
  | d :: r => by simp [Rows.uptoBulkEntries, bulkE, gonce_bX d, gonce_bE r]
theorem gonce_bX {H : Type} : ∀ d : Lit × DataW H, Rows.uptoBulkEntry d = bulkX d
  | (l, d) => by cases l <;> simp [Rows.uptoBulkEntry, bulkX, gonce_bD d]
end
set_option maxRecDepth 100000 in
theorem gonce_lifted (os : Os) (started : os.Started) (H : Type) (enc : TypeId × Value → H) (F : Stop.Interp) :
    ReturnsInHanded {} Try.checked os 7 .any ((Rows.OpenSpec.upto Rows.gateOnceSpec).pre6 enc Try.prog Try.f7 Rows.gateOnceUptoRow.domain false) (((Rows.OpenSpec.upto Rows.gateOnceSpec).at F).post enc Try.prog Try.f7 false true false false) := by
  refine returnsInHanded_of_cond (C := Try.checked) (s := Rows.OpenSpec.upto Rows.gateOnceSpec) (k := Rows.uptoSmall) rfl gonce_own started (by kernel_rfl) Try.func7
    (OpenSpec.witness (enc := enc) (C := Try.checked) (s := Rows.OpenSpec.upto Rows.gateOnceSpec) (k := Rows.uptoSmall) rfl false ⟨#[], #[.slice none 0 0], []⟩ 8 (by kernel_rfl) (by kernel_rfl) (by kernel_rfl)
      (x := ([.nil], [], [])) (by kernel_rfl) rfl (by kernel_rfl)) ?_
  intro W base args ds gs before hval0 hW _ hk _
  show Calls Try.prog 7 args W fun e W' => ∃ v, e = .returned v ∧ Rows.gateOnceSpec.post enc Try.prog Try.f7 false true false false W args v W'
  have hval : ∀ (j : Nat) t v, Try.f7.params[j]? = some t → args[j]? = some v → Value.okWide Try.prog W .any base t v := hval0
  have hW' := hW
  have hlt := hW.lt
  obtain ⟨p, q, hA0, hV, rfl, hfz, hnd⟩ := hW
  have hA : DataW.TrodAll enc Try.prog W 0 (fun _ => true) true Try.f7.params.toList args.toList ds p := hA0
  have hA1 := hA
  rw [Try.params7] at hA hval
  obtain ⟨v0, vs0, d0, ds0, p0, q0, hargs, rfl, rfl, h0, r0⟩ := trodAll_cons hA
  obtain ⟨rfl, rfl, rfl⟩ := trodAll_nil r0
  obtain rfl : args = #[v0] := by cases args; simp_all
  obtain ⟨rfl, rfl⟩ := trodVars_none hV
  obtain ⟨z0, z'0, z''0, rfl⟩ := okWide_slice Try.underlying43 (hval 0 43 v0 rfl rfl)
  obtain ⟨y0, u0, b0, e0⟩ := arg_leaf (α := (List GateOp)) (opn_slice Try.underlying43 (by kernel_rfl) (by decide) opn_GateOp) rfl h0
  have hB : Siz.bulk y0 ≤ 1048576 := by
    have h := of_decide_eq_true hk
    rw [gonce_bL] at h
    simp only [List.append_nil, bulkL] at h
    omega
  have hR := repL_cons (M := fun _ => False) (β := fun _ => none) (cp := fun _ => 0) (.c e0) (repL_nil)
  refine (law_callsA (gonce_vc y0 u0 hB) hR).mono fun e W' ⟨he, bel⟩ => ?_
  subst he
  exact ⟨_, rfl, _, _, _, [], _, [], hW', trodAll_mk1 (shut_bool Try.underlying4 _), trodAll_below gonce_laidOut bel (gonce_readOk (by kernel_rfl)) (fun x hx => hlt x (List.mem_append_left _ hx)) hA1, rfl, bel.frame _, fun h => by cases h⟩
theorem GateOnce_proved : Rows.GateOnceUptoSaid :=
  OpenClaim.holds_of_cond 7 Try.f7 rfl rfl rfl rfl rfl rfl rfl ⟨rfl, rfl, rfl, rfl, rfl⟩ rfl rfl rfl rfl rfl (by kernel_rfl) Try.func7 (by kernel_rfl)
    (of_decide_eq_true (by kernel_rfl)) (by unfold Func.isWrapper; first | (rw [if_pos (by decide +kernel)]; kernel_rfl) | (rw [if_neg (by decide +kernel)]; exact ⟨rfl, rfl⟩))
    (fun os started H enc _ F => gonce_lifted os started H enc F)
end

end Go.Proofs.Ytpooooomhnehfaa
