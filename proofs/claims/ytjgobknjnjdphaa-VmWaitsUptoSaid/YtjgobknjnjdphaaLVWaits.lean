/- A program that waits goes on just as it would have, when more comes in: it is no matter how what comes in is cut; for all inputs. -/
import Derived.Test.YtjgobknjnjdphaaVmL
import Derived.Test.YtjgobknjnjdphaaVmQ
set_option linter.all false
namespace Go.Proofs.Ytjgobknjnjdphaa
open Go Go.Abs

theorem allN_app {l m : List Int} : allN (l ++ m) ↔ allN l ∧ allN m := by
  unfold allN
  constructor
  · intro h; exact ⟨fun x hx => h x (by simp [hx]), fun x hx => h x (by simp [hx])⟩
  · rintro ⟨h1, h2⟩ x hx
    rcases List.mem_append.1 hx with h | h
    · exact h1 x h
    · exact h2 x h
theorem err_val {p : List Ins} {v : Vm} {l : List Int} {f : Int} (h1 : checkP p = 0) (h2 : rightV v = 0) (h3 : v.at_ ≤ p.length) (hf0 : 0 ≤ f) (hf1 : f ≤ 5000) : errV p v l f = if l.any (fun n => !numB n) = true then 4 else if 5000 < l.length then 2 else 0 := by
  unfold errV
  rw [if_pos h1, if_pos h2, if_neg (by omega), if_pos (show winB f 0 5000 = true by simp [winB]; omega)]
theorem waits_law {p : List Ins} {v : Vm} {inp more : List Int} {fuel : Int} (h : errV p v inp fuel = 0) (hn : (runV p v inp fuel).2.2.1 = inp.length) :
    0 ≤ fuel ∧ (runV p v inp fuel).2.2.2.1 ≤ fuel ∧
    ((¬ (runV p (runV p v inp fuel).1 more (fuel - (runV p v inp fuel).2.2.2.1)).2.2.2.2 = 0 ∨ ¬ (runV p v (inp ++ more) fuel).2.2.2.2 = 0) → (runV p (runV p v inp fuel).1 more (fuel - (runV p v inp fuel).2.2.2.1)).2.2.2.2 = (runV p v (inp ++ more) fuel).2.2.2.2 ∨ 5000 < (inp ++ more).length) ∧
    ((runV p v (inp ++ more) fuel).2.2.2.2 = 0 →
      (runV p (runV p v inp fuel).1 more (fuel - (runV p v inp fuel).2.2.2.1)).1 = (runV p v (inp ++ more) fuel).1 ∧
      (runV p v inp fuel).2.1 ++ (runV p (runV p v inp fuel).1 more (fuel - (runV p v inp fuel).2.2.2.1)).2.1 = (runV p v (inp ++ more) fuel).2.1 ∧
      (runV p v (inp ++ more) fuel).2.2.1 = (runV p v inp fuel).2.2.1 + (runV p (runV p v inp fuel).1 more (fuel - (runV p v inp fuel).2.2.2.1)).2.2.1 ∧
      (runV p v (inp ++ more) fuel).2.2.2.1 = (runV p v inp fuel).2.2.2.1 + (runV p (runV p v inp fuel).1 more (fuel - (runV p v inp fuel).2.2.2.1)).2.2.2.1) := by
  obtain ⟨h1, h2, h3, h4, h5, h6, h7⟩ := err_iff.1 h
  have i1 := inv_run h1 fuel.toNat _ (inv0 h)
  have hi := run_inp (p := p) fuel.toNat (mac0 v inp)
  have em : (mac0 v inp).inp = inp := rfl
  have hb := run_bd (p := p) fuel.toNat (mac0 v inp)
  have hm := run_more (p := p) more fuel.toNat (mac0 v inp)
  have e1 : ({ mac0 v inp with inp := (mac0 v inp).inp ++ more } : Mac) = mac0 v (inp ++ more) := rfl
  rw [e1] at hm
  rw [em] at hi
  simp only [runV_e]
  rw [runV_of h] at hn ⊢
  dsimp only at hn ⊢
  have hl0 : (runM p fuel.toNat (mac0 v inp)).1.inp = [] := List.length_eq_zero_iff.1 (by omega)
  have hx := err_val (l := more) h1 (inv_right h1 i1) i1.a1 (show 0 ≤ fuel - (runM p fuel.toNat (mac0 v inp)).2 by omega) (by omega)
  have hz := err_val (l := inp ++ more) h1 h2 h3 h5 h6
  have ha : (inp ++ more).any (fun n => !numB n) = more.any (fun n => !numB n) := by rw [List.any_append, allN_iff.2 h4]; rfl
  rw [ha] at hz
  refine ⟨h5, by omega, fun hor => ?_, fun hok => ?_⟩
  · rw [hx, hz] at hor ⊢
    split
    · exact .inl rfl
    · rename_i hq
      rw [if_neg hq, if_neg hq] at hor
      by_cases hl : 5000 < (inp ++ more).length
      · exact .inr hl
      · rw [List.length_append] at hl
        rw [if_neg (by omega), if_neg (by rw [List.length_append]; omega)] at hor
        rcases hor with q | q <;> exact absurd rfl q
  · have hok2 : errV p (vmOf (runM p fuel.toNat (mac0 v inp)).1) more (fuel - (runM p fuel.toNat (mac0 v inp)).2) = 0 := by
      rw [hz] at hok
      split at hok
      · cases hok
      · rename_i hq
        split at hok
        · cases hok
        · rename_i hl
          rw [List.length_append] at hl
          rw [hx, if_neg hq, if_neg (by omega)]
    rw [runV_of hok, runV_of hok2]
    dsimp only
    have ho := run_on (p := p) (fuel - (runM p fuel.toNat (mac0 v inp)).2).toNat (runM p fuel.toNat (mac0 v inp)).1 more
    have e2 : ({ (runM p fuel.toNat (mac0 v inp)).1 with inp := (runM p fuel.toNat (mac0 v inp)).1.inp ++ more } : Mac) = { (runM p fuel.toNat (mac0 v inp)).1 with inp := more } := by rw [hl0]; rfl
    rw [e2, show fuel.toNat - (runM p fuel.toNat (mac0 v inp)).2.toNat = (fuel - (runM p fuel.toNat (mac0 v inp)).2).toNat by omega, ho] at hm
    rw [hm]
    refine ⟨rfl, rfl, ?_, rfl⟩
    dsimp only
    rw [hl0]
    simp only [List.length_append, List.length_nil, Int.natCast_add]
    omega
noncomputable def cSame : FuncId → Con := fun f => match f with
  | 29 => pureCon (detPC eqInt_D)
  | _ => fun _ _ _ => Bad 1001
theorem cSame_ok : ConOk Try.prog cSame := fun f A H K h => by
  unfold cSame at h
  split at h
  · exact ⟨⟨Try.f29, Try.func29, by kernel_rfl, by kernel_rfl⟩, pureCon_ok eqInt_ok h⟩
  · cases h
noncomputable def cVC : FuncId → Con := fun f => match f with
  | 19 => pureCon run_C
  | 20 => pureCon (detPC vlives_D)
  | 29 => pureCon (detPC eqInt_D)
  | 22 => pureCon (detPC eqEmit_D)
  | 23 => pureCon clEmit_C
  | 24 => pureCon clInt_C
  | 21 => inlCon E cSame noDraws [0, 1, 2, 3, 4] Try.f21
  | _ => fun _ _ _ => Bad 1001
theorem cVC_ok : ConOk Try.prog cVC := fun f A H K h => by
  unfold cVC at h
  split at h
  · exact ⟨⟨Try.f19, Try.func19, by kernel_rfl, by kernel_rfl⟩, pureCon_ok run_ok h⟩
  · exact ⟨⟨Try.f20, Try.func20, by kernel_rfl, by kernel_rfl⟩, pureCon_ok vlives_ok h⟩
  · exact ⟨⟨Try.f29, Try.func29, by kernel_rfl, by kernel_rfl⟩, pureCon_ok eqInt_ok h⟩
  · exact ⟨⟨Try.f22, Try.func22, by kernel_rfl, by kernel_rfl⟩, pureCon_ok eqEmit_ok h⟩
  · exact ⟨⟨Try.f23, Try.func23, by kernel_rfl, by kernel_rfl⟩, pureCon_ok clEmit_ok h⟩
  · exact ⟨⟨Try.f24, Try.func24, by kernel_rfl, by kernel_rfl⟩, pureCon_ok clInt_ok h⟩
  · exact ⟨⟨Try.f21, Try.func21, by kernel_rfl, by kernel_rfl⟩, inl_ok envOk zl cSame_ok noDraws_ok Try.func21 h⟩
  · cases h
def dVC : FuncId → Option Dt := fun f => match f with
  | 29 => some (.c eqInt_D)
  | 22 => some (.c eqEmit_D)
  | _ => none
theorem dVC_ok : DetOk Try.prog dVC := fun f d h => by
  unfold dVC at h
  split at h
  · cases h; exact ⟨⟨Try.f29, Try.func29, by kernel_rfl, by kernel_rfl⟩, eqInt_ok⟩
  · cases h; exact ⟨⟨Try.f22, Try.func22, by kernel_rfl, by kernel_rfl⟩, eqEmit_ok⟩
  · cases h
set_option maxRecDepth 100000 in
set_option maxHeartbeats 4000000 in
theorem vwaits_vc (p : (List Ins)) (v : Vm) (inp : (List Int)) (more : (List Int)) (fuel : Int) (fit_p : Siz.fit p) (fit_v : Siz.fit v) (fit_inp : Siz.fit inp) (fit_more : Siz.fit more) (fit_fuel : Siz.fit fuel) (hB : Siz.bulk p + Siz.bulk v + Siz.bulk inp + Siz.bulk more + Siz.bulk fuel ≤ 1048576) : FnOk Try.prog 8 [Leaf.av fun _ => p, .agg (Dat.enc fun _ => v), Leaf.av fun _ => inp, Leaf.av fun _ => more, .i .i64 fun _ => fuel] [] (outA (.bc true) []) := by
  refine fn_ok envOk zl cVC_ok (draws_ok envOk zl dVC_ok mixed) (keep := [0, 1, 2, 3, 4, 6, 10, 11, 12, 13, 14, 15, 16, 17, 18, 19, 20, 21, 22, 23, 24, 25, 26, 54, 89]) Try.func8 rfl ?_
  have fin := @fin_b
  have finc := @fin_t
  have hl : p.length ≤ 1048576 ∧ v.regs.length ≤ 1048576 ∧ inp.length ≤ 1048576 ∧ more.length ≤ 1048576 := by
    have h1 := bulk_len Ins.one_le p
    have h2 := bulk_len (α := Int) (fun _ => Nat.le_add_left _ _) v.regs
    have h3 := bulk_len (α := Int) (fun _ => Nat.le_add_left _ _) inp
    have h4 := bulk_len (α := Int) (fun _ => Nat.le_add_left _ _) more
    simp only [Siz.bulk] at hB h1 h2 h3 h4
    omega
  generalize outA (.bc true) [] = K at fin finc
  cbv
  repeat' first | (show Stp _; exfalso; first | omega | (exact h ‹_›) | (exact absurd ‹_› h) | (exact Bool.false_ne_true (h.symm.trans (show _ = true by assumption)))) | (refine Stp.mk ?_; cbv) | (refine Gen.mk fun r hr => ?_; (try simp only [Dat.ok, Dat.dec, Leaf.ok, Leaf.val, Ins.eta, Vm.eta, Emit.eta, Msg.eta, val_sl, val_nil] at hr); cbv) | exact trivial | rfl | refine Both.mk ?_ ?_ | (refine Imp.mk fun h => ?_; (try dsimp only at h); (try simp only [nc, Int.toNat_natCast, Bool.not_eq_true', Bool.not_eq_false', decide_eq_true_eq, decide_eq_false_iff_not, beq_iff_eq, beq_eq_false_iff_ne, ba_inj, bne_iff_ne, ne_eq, Bool.and_eq_true, Bool.or_eq_true, Bool.and_eq_false_iff, Bool.or_eq_false_iff, Int.not_le, Int.not_lt, Nat.not_le, Nat.not_lt] at h); (try simp only [nc] at h)) | refine Ob.mk ?_ ?_ | refine Chk.mk (by kernel_rfl) ?_ | refine Eq'.mk ?_ | (refine AllN.mk fun i hi => ?_; cbv) | (refine AllS.mk fun r hr => ?_; (try simp only [Dat.ok, Dat.dec, Leaf.ok, Leaf.val, Ins.eta, Vm.eta, Emit.eta, Msg.eta, val_sl] at hr); cbv)
  all_goals ((try dsimp only at *); (try simp only [nc, Int.toNat_natCast, Bool.not_eq_true', Bool.not_eq_false', decide_eq_true_eq, decide_eq_false_iff_not, beq_iff_eq, beq_eq_false_iff_ne, ba_inj, bne_iff_ne, ne_eq, Bool.and_eq_true, Bool.or_eq_true, Bool.and_eq_false_iff, Bool.or_eq_false_iff, Int.not_le, Int.not_lt, Nat.not_le, Nat.not_lt] at *); (try simp only [nc] at *))
  all_goals try simp only [Dat.ok, Dat.dec, Leaf.ok, Leaf.val, Ins.eta, Vm.eta, Emit.eta, Msg.eta, val_sl] at *
  all_goals have fa : InR fuel := fit_fuel
  all_goals unfold InR at fa
  all_goals first
    | exact finc
    | exact Nat.le_refl _
    | exact ⟨⟨rfl, fun i _ => Dat.hok _⟩, ⟨trivial, ⟨rfl, fun i _ => Dat.hok _⟩, trivial, trivial⟩, ⟨rfl, fun i _ => Dat.hok _⟩, show _ ≤ _ by omega, show _ ≤ _ by omega, show _ ≤ _ by omega⟩
    | exact ⟨⟨rfl, fun i _ => Dat.hok _⟩, show _ ≤ _ by omega⟩
    | skip
  all_goals have hb1 := @runV_bd p v inp fuel
  all_goals have hb2 := @runV_bd p (runV p v inp fuel).1 more (fuel - (runV p v inp fuel).2.2.2.1)
  all_goals have hb3 := @runV_bd p v (inp ++ more) fuel
  all_goals have W := @waits_law p v inp more fuel
  all_goals have va := val_app (α := Int) inp more 1 _ _ rfl rfl rfl
  all_goals have ve := val_app (α := Emit) (runV p v inp fuel).2.1 (runV p (runV p v inp fuel).1 more (fuel - (runV p v inp fuel).2.2.2.1)).2.1 2 _ _ rfl rfl rfl
  all_goals subst_vars
  all_goals obtain ⟨w0, w1, w2, w3⟩ := W (by rw [← runV_e]; assumption) (by assumption)
  all_goals first
    | (unfold InR; omega)
    | exact ⟨⟨rfl, fun i _ => Dat.hok _⟩, ⟨trivial, ⟨rfl, fun i _ => Dat.hok _⟩, trivial, trivial⟩, ⟨rfl, fun i _ => Dat.hok _⟩, show _ ≤ _ by omega, show _ ≤ _ by omega, show _ ≤ _ by omega⟩
    | exact ⟨Nat.le_refl _, trivial, by omega, by omega⟩
    | exact ⟨⟨rfl, fun i _ => Dat.hok _⟩, ⟨trivial, ⟨rfl, fun i _ => Dat.hok _⟩, trivial, trivial⟩, ⟨rfl, fun i _ => ok_row rfl (Dat.hok _) (Dat.hok _)⟩, show _ ≤ _ by omega, show _ ≤ _ by omega, show _ ≤ _ by rw [va, List.length_append]; omega⟩
    | (try simp only [va] at *
       first
         | (have q : ¬ _ := h
            refine fin ?_
            rw [List.length_append] at w2
            have := w2 (by first | exact .inl (by assumption) | exact .inr (by assumption))
            rcases this with q1 | q1
            · first | exact absurd q1 (by assumption) | exact absurd q1.symm (by assumption)
            · exact decide_eq_true (by omega))
         | (obtain ⟨x1, x2, x3, x4⟩ := w3 (by assumption)
            rw [List.length_append] at hb3
            first
              | exact ⟨⟨rfl, fun i _ => Dat.hok _⟩, ⟨rfl, fun i _ => Dat.hok _⟩, show _ ≤ _ by omega⟩
              | exact ⟨⟨rfl, fun i _ => Dat.hok _⟩, show _ ≤ _ by omega⟩
              | exact ⟨Nat.le_refl _, Nat.le_refl _, by omega, by omega⟩
              | exact ⟨Nat.le_refl _, trivial, by omega, by omega⟩
              | exact ⟨⟨rfl, fun i _ => ok_row rfl (Dat.hok _) (Dat.hok _)⟩, ⟨rfl, fun i _ => Dat.hok _⟩, by rw [ve, x2]; show _ ≤ _; omega⟩
              | (unfold InR; omega)
              | (exfalso; exact absurd x3 (by assumption))
              | (exfalso; exact absurd x4 (by assumption))
              | (exfalso; exact absurd (congrArg Vm.fault x1) (by assumption))
              | (exfalso; exact absurd (congrArg Vm.halts x1) (by assumption))
              | (exfalso; exact absurd (congrArg Vm.at_ x1) (by assumption))
              | (exfalso; rw [x1] at h; revert h; unfold eqInt_S; simp; done)
              | (exfalso; rw [ve, x2] at h; revert h; unfold eqEmit_S; simp; done)
              | (refine fin ?_; rw [beq_iff_eq]; exact x4)
              | fail)
         | fail)
section
open Go.ChangeShapes Go.WideShapes Go.ChangeAt Go.RowKit Go.Joins Go.Deep
set_option linter.unusedVariables false
theorem vwaits_own : ownKnob Try.prog.godebug = none := by kernel_rfl
theorem vwaits_laidOut : laidOutB Try.prog = true := by kernel_rfl
theorem vwaits_readOk {ts : Array TypeId} (h : ts.toList.all (fun t => Try.prog.readableRec t && decide (t < Try.prog.types.size)) = true) : ∀ t ∈ ts.toList, Try.prog.readableRec t = true ∧ t < Try.prog.types.size := fun t ht => by
  have := List.all_eq_true.1 h t ht
  simpa using this
mutual
theorem vwaits_bD {H : Type} : ∀ d : DataW H, Rows.uptoBulk d = bulkD d
  | .lit l => by cases l <;> simp [Rows.uptoBulk, bulkD]
  | .nil => by simp [Rows.uptoBulk, bulkD]
  | .ptr d => by simp [Rows.uptoBulk, bulkD, vwaits_bD d]
  | .slice a b => by simp [Rows.uptoBulk, bulkD, vwaits_bL a, vwaits_bL b]
  | .agg a => by simp [Rows.uptoBulk, bulkD, vwaits_bL a]
  | .iface _ d => by simp [Rows.uptoBulk, bulkD, vwaits_bD d]
  | .map e => by simp [Rows.uptoBulk, bulkD, vwaits_bE e]
  | .held _ => by simp [Rows.uptoBulk, bulkD]
theorem vwaits_bL {H : Type} : ∀ d : List (DataW H), Rows.uptoBulkAll d = bulkL d
  | [] => by simp [Rows.uptoBulkAll, bulkL]
  | d :: r => by simp [Rows.uptoBulkAll, bulkL, vwaits_bD d, vwaits_bL r]
theorem vwaits_bE {H : Type} : ∀ d : List (Lit × DataW H), Rows.uptoBulkEntries d = bulkE d
  | [] => by simp [Rows.uptoBulkEntries, bulkE]
  | d :: r => by simp [Rows.uptoBulkEntries, bulkE, vwaits_bX d, vwaits_bE r]
theorem vwaits_bX {H : Type} : ∀ d : Lit × DataW H, Rows.uptoBulkEntry d = bulkX d
  | (l, d) => by cases l <;> simp [Rows.uptoBulkEntry, bulkX, vwaits_bD d]
end
set_option maxRecDepth 100000 in
theorem vwaits_lifted (os : Os) (started : os.Started) (H : Type) (enc : TypeId × Value → H) (F : Stop.Interp) :
    ReturnsInHanded {} Try.checked os 8 .any ((Rows.OpenSpec.upto Rows.vmWaitsSpec).pre6 enc Try.prog Try.f8 Rows.vmWaitsUptoRow.domain false) (((Rows.OpenSpec.upto Rows.vmWaitsSpec).at F).post enc Try.prog Try.f8 false true false false) := by
  refine returnsInHanded_of_cond (C := Try.checked) (s := Rows.OpenSpec.upto Rows.vmWaitsSpec) (k := Rows.uptoSmall) rfl vwaits_own started (by kernel_rfl) Try.func8
    (OpenSpec.witness (enc := enc) (C := Try.checked) (s := Rows.OpenSpec.upto Rows.vmWaitsSpec) (k := Rows.uptoSmall) rfl false ⟨#[], #[.slice none 0 0, .agg #[.int .i64 0, .slice none 0 0, .bool false, .bool false], .slice none 0 0, .slice none 0 0, .int .i64 0], []⟩ 8 (by kernel_rfl) (by kernel_rfl) (by kernel_rfl)
      (x := ([.nil, .agg [.lit (.int .i64 0), .nil, .lit (.bool false), .lit (.bool false)], .nil, .nil, .lit (.int .i64 0)], [], [])) (by kernel_rfl) rfl (by kernel_rfl)) ?_
  intro W base args ds gs before hval0 hW _ hk _
  show Calls Try.prog 8 args W fun e W' => ∃ v, e = .returned v ∧ Rows.vmWaitsSpec.post enc Try.prog Try.f8 false true false false W args v W'
  have hval : ∀ (j : Nat) t v, Try.f8.params[j]? = some t → args[j]? = some v → Value.okWide Try.prog W .any base t v := hval0
  have hW' := hW
  have hlt := hW.lt
  obtain ⟨p, q, hA0, hV, rfl, hfz, hnd⟩ := hW
  have hA : DataW.TrodAll enc Try.prog W 0 (fun _ => true) true Try.f8.params.toList args.toList ds p := hA0
  have hA1 := hA
  rw [Try.params8] at hA hval
  obtain ⟨v0, vs0, d0, ds0, p0, q0, hargs, rfl, rfl, h0, r0⟩ := trodAll_cons hA
  obtain ⟨v1, vs1, d1, ds1, p1, q1, rfl, rfl, rfl, h1, r1⟩ := trodAll_cons r0
  obtain ⟨v2, vs2, d2, ds2, p2, q2, rfl, rfl, rfl, h2, r2⟩ := trodAll_cons r1
  obtain ⟨v3, vs3, d3, ds3, p3, q3, rfl, rfl, rfl, h3, r3⟩ := trodAll_cons r2
  obtain ⟨v4, vs4, d4, ds4, p4, q4, rfl, rfl, rfl, h4, r4⟩ := trodAll_cons r3
  obtain ⟨rfl, rfl, rfl⟩ := trodAll_nil r4
  obtain rfl : args = #[v0, v1, v2, v3, v4] := by cases args; simp_all
  obtain ⟨rfl, rfl⟩ := trodVars_none hV
  obtain ⟨z0, z'0, z''0, rfl⟩ := okWide_slice Try.underlying42 (hval 0 42 v0 rfl rfl)
  obtain ⟨y0, u0, b0, e0⟩ := arg_leaf (α := (List Ins)) (opn_slice Try.underlying42 (by kernel_rfl) (by decide) opn_Ins) rfl h0
  obtain ⟨cs1, rfl, _⟩ := okWide_struct Try.underlying45 (hval 1 45 v1 rfl rfl)
  obtain ⟨y1, u1, b1, e1⟩ := arg_agg (α := Vm) opn_Vm h1
  obtain ⟨z2, z'2, z''2, rfl⟩ := okWide_slice Try.underlying43 (hval 2 43 v2 rfl rfl)
  obtain ⟨y2, u2, b2, e2⟩ := arg_leaf (α := (List Int)) (opn_slice Try.underlying43 (by kernel_rfl) (by decide) (opn_int Try.underlying3)) rfl h2
  obtain ⟨z3, z'3, z''3, rfl⟩ := okWide_slice Try.underlying43 (hval 3 43 v3 rfl rfl)
  obtain ⟨y3, u3, b3, e3⟩ := arg_leaf (α := (List Int)) (opn_slice Try.underlying43 (by kernel_rfl) (by decide) (opn_int Try.underlying3)) rfl h3
  obtain ⟨z4, rfl⟩ := okWide_int Try.underlying3 (hval 4 3 v4 rfl rfl)
  obtain ⟨y4, u4, b4, e4⟩ := arg_leaf (α := Int) (opn_int Try.underlying3) rfl h4
  have hB : Siz.bulk y0 + Siz.bulk y1 + Siz.bulk y2 + Siz.bulk y3 + Siz.bulk y4 ≤ 1048576 := by
    have h := of_decide_eq_true hk
    rw [vwaits_bL] at h
    simp only [List.append_nil, bulkL] at h
    omega
  have hR := repL_cons (M := fun _ => False) (β := fun _ => none) (cp := fun _ => 0) (.c e0) (repL_cons (M := fun _ => False) (β := fun _ => none) (cp := fun _ => 0) (.c e1) (repL_cons (M := fun _ => False) (β := fun _ => none) (cp := fun _ => 0) (.c e2) (repL_cons (M := fun _ => False) (β := fun _ => none) (cp := fun _ => 0) (.c e3) (repL_cons (M := fun _ => False) (β := fun _ => none) (cp := fun _ => 0) (.c e4) (repL_nil)))))
  refine (law_callsA (vwaits_vc y0 y1 y2 y3 y4 u0 u1 u2 u3 u4 hB) hR).mono fun e W' ⟨he, bel⟩ => ?_
  subst he
  exact ⟨_, rfl, _, _, _, [], _, [], hW', trodAll_mk1 (shut_bool Try.underlying4 _), trodAll_below vwaits_laidOut bel (vwaits_readOk (by kernel_rfl)) (fun x hx => hlt x (List.mem_append_left _ hx)) hA1, rfl, bel.frame _, fun h => by cases h⟩
theorem VmWaits_proved : Rows.VmWaitsUptoSaid :=
  OpenClaim.holds_of_cond 8 Try.f8 rfl rfl rfl rfl rfl rfl rfl ⟨rfl, rfl, rfl, rfl, rfl⟩ rfl rfl rfl rfl rfl (by kernel_rfl) Try.func8 (by kernel_rfl)
    (of_decide_eq_true (by kernel_rfl)) (by unfold Func.isWrapper; first | (rw [if_pos (by decide +kernel)]; kernel_rfl) | (rw [if_neg (by decide +kernel)]; exact ⟨rfl, rfl⟩))
    (fun os started H enc _ F => vwaits_lifted os started H enc F)
end

end Go.Proofs.Ytjgobknjnjdphaa
