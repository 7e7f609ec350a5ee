/- What comes in and is not taken is no matter; for all inputs. -/
import Derived.Test.YtjgobknjnjdphaaVmL
import Derived.Test.YtjgobknjnjdphaaVmQ
set_option linter.all false
namespace Go.Proofs.Ytjgobknjnjdphaa
open Go Go.Abs

theorem run_blind {p : List Ins} (rest other : List Int) : ∀ (f : Nat) (m : Mac) (a : List Int), (runM p f { m with inp := a ++ rest }).1.inp.length = rest.length → ((runM p f { m with inp := a ++ rest }).2 = f ∨ rest ≠ []) →
    runM p f { m with inp := a ++ other } = ({ (runM p f { m with inp := a ++ rest }).1 with inp := other }, (runM p f { m with inp := a ++ rest }).2)
  | 0, m, a, h, _ => by
    have : a = [] := by
      simp only [runM, List.length_append] at h
      exact List.length_eq_zero_iff.1 (by omega)
    subst this
    rfl
  | f + 1, m, a, h, hc => by
    have st : ∀ l : List Int, m.halts = true ∨ m.fault = true → runM p (f + 1) { m with inp := l } = ({ m with inp := l }, 0) := fun l hs => run_stuck (by rcases hs with hs | hs; exact .inl hs; exact .inr (.inl hs)) _
    by_cases hs : m.halts = true ∨ m.fault = true
    · rw [st _ hs] at h ⊢
      rw [st _ hs]
      have : a = [] := by
        simp only [List.length_append] at h
        exact List.length_eq_zero_iff.1 (by omega)
      subst this
      rfl
    · have hh : ¬ m.halts = true := fun q => hs (.inl q)
      have hf : ¬ m.fault = true := fun q => hs (.inr q)
      have one : ∀ (l : List Int) (m' : Mac), stepM p { m with inp := l } = some m' → runM p (f + 1) { m with inp := l } = ((runM p f m').1, (runM p f m').2 + 1) := fun l m' q => by
        rw [runM, if_neg hh, if_neg hf, q]
      by_cases hi : isIn p m
      · obtain ⟨g, g1, g2⟩ := step_in hi
        cases a with
        | nil =>
          exfalso
          cases hr : rest with
          | nil =>
            subst hr
            have q := g1 m.out
            have e : runM p (f + 1) { m with inp := [] ++ [] } = ({ m with inp := [] }, 0) := by
              rw [runM, if_neg hh, if_neg hf]
              have q2 : stepM p { m with inp := [] ++ [] } = none := q
              rw [q2]; rfl
            rw [e] at hc
            rcases hc with hc | hc
            · dsimp only at hc; omega
            · exact hc rfl
          | cons x l =>
            subst hr
            have e := one ([] ++ x :: l) _ (g2 x l m.out)
            rw [e] at h
            have := (run_inp (p := p) f { g x with inp := l, out := m.out }).1
            dsimp only at h this
            simp only [List.length_cons] at h
            omega
        | cons x a =>
          have e1 := one (x :: a ++ rest) _ (g2 x (a ++ rest) m.out)
          have e2 := one (x :: a ++ other) _ (g2 x (a ++ other) m.out)
          rw [e1] at h hc ⊢
          rw [e2]
          have ih := run_blind rest other f { g x with out := m.out } a h (by
            rcases hc with hc | hc
            · left
              have e : (runM p f { g x with inp := a ++ rest, out := m.out }).2 + 1 = f + 1 := hc
              show (runM p f { g x with inp := a ++ rest, out := m.out }).2 = f
              push_cast at e ⊢; exact Int.add_left_cancel (a := 1) (by rw [Int.add_comm, e, Int.add_comm])
            · exact .inr hc)
          dsimp only at ih
          rw [ih]
      · obtain ⟨m', h'⟩ := step_not hi
        have e1 := one (a ++ rest) _ (h' (a ++ rest) m.out)
        have e2 := one (a ++ other) _ (h' (a ++ other) m.out)
        rw [e1] at h hc ⊢
        rw [e2]
        have ih := run_blind rest other f { m' with out := m.out ++ m'.out } a h (by
          rcases hc with hc | hc
          · left
            have e : (runM p f { m' with inp := a ++ rest, out := m.out ++ m'.out }).2 + 1 = f + 1 := hc
            show (runM p f { m' with inp := a ++ rest, out := m.out ++ m'.out }).2 = f
            push_cast at e ⊢; exact Int.add_left_cancel (a := 1) (by rw [Int.add_comm, e, Int.add_comm])
          · exact .inr hc)
        dsimp only at ih
        rw [ih]
theorem blind_law {p : List Ins} {v : Vm} {inp other : List Int} {fuel : Int} (h : errV p v inp fuel = 0) (hc : ¬ ((runV p v inp fuel).2.2.2.1 < fuel ∧ (runV p v inp fuel).2.2.1 = inp.length)) (ho : (runV p v (inp.take (runV p v inp fuel).2.2.1.toNat ++ other) fuel).2.2.2.2 = 0) :
    runV p v (inp.take (runV p v inp fuel).2.2.1.toNat ++ other) fuel = runV p v inp fuel := by
  obtain ⟨h1, h2, h3, h4, h5, h6, h7⟩ := err_iff.1 h
  have hi := run_inp (p := p) fuel.toNat (mac0 v inp)
  have em : (mac0 v inp).inp = inp := rfl
  have hb := run_bd (p := p) fuel.toNat (mac0 v inp)
  rw [em] at hi
  rw [runV_e] at ho
  rw [runV_of h] at hc ho ⊢
  dsimp only at hc ho ⊢
  generalize hn : ((inp.length : Int) - ((runM p fuel.toNat (mac0 v inp)).1.inp.length : Int)).toNat = n at *
  have hnl : n ≤ inp.length := by omega
  have e1 : mac0 v inp = { mac0 v inp with inp := inp.take n ++ inp.drop n } := by rw [List.take_append_drop]; rfl
  have hb2 := run_blind (p := p) (inp.drop n) other fuel.toNat (mac0 v inp) (inp.take n) (by rw [← e1, List.length_drop]; omega) (by
    rw [← e1]
    by_cases q : (runM p fuel.toNat (mac0 v inp)).2 < fuel
    · right
      intro q2
      have := congrArg List.length q2
      rw [List.length_drop, List.length_nil] at this
      exact hc ⟨q, by omega⟩
    · left; omega)
  rw [← e1] at hb2
  have e2 : ({ mac0 v inp with inp := inp.take n ++ other } : Mac) = mac0 v (inp.take n ++ other) := rfl
  rw [e2] at hb2
  rw [runV_of ho, hb2]
  dsimp only
  refine Prod.ext rfl (Prod.ext rfl (Prod.ext ?_ rfl))
  dsimp only
  rw [List.length_append, List.length_take, Nat.min_eq_left hnl]
  omega
noncomputable def cSame : FuncId → Con := fun f => match f with
  | 29 => pureCon (detPC eqInt_D)
  | _ => fun _ _ _ => Bad 1001
theorem cSame_ok : ConOk Try.prog cSame := fun f A H K h => by
  unfold cSame at h
  split at h
  · exact ⟨⟨Try.f29, Try.func29, by kernel_rfl, by kernel_rfl⟩, pureCon_ok eqInt_ok h⟩
  · cases h
def clIntN_N : DetN := fun A => match A with
  | [l] => some (fun _ => Leaf.ok (List Int) l ∧ clInt_P (Leaf.val l), clInt_R fun _ => (Leaf.val l), vecO 3 fun _ => ((Leaf.val l) : (List Int)))
  | _ => none
theorem clIntN_okN : PcOk Try.prog 24 (detNPC clIntN_N) := det_okN fun A p r o h hp0 => by
  unfold clIntN_N at h
  split at h
  · rename_i l
    cases h
    obtain ⟨g0, hp⟩ := hp0
    exact FnOk.pre (A' := [Leaf.av fun _ => (Leaf.val l : (List Int))]) (FnOk.out (clInt_vc (Leaf.val l) hp) rfl ⟨rfl, rfl⟩) (.mk (Leaf.hle _ g0) (trivial))
  · cases h
noncomputable def cVC : FuncId → Con := fun f => match f with
  | 19 => frCon runF_D
  | 20 => pureCon (detPC vlives_D)
  | 29 => pureCon (detPC eqInt_D)
  | 22 => pureCon (detPC eqEmit_D)
  | 23 => pureCon clEmit_C
  | 24 => pureCon clInt_C
  | 21 => inlCon E cSame noDraws [0, 1, 2, 3, 4] Try.f21
  | _ => fun _ _ _ => Bad 1001
theorem cVC_ok : ConOk Try.prog cVC := fun f A H K h => by
  unfold cVC at h
  split at h
  · exact ⟨⟨Try.f19, Try.func19, by kernel_rfl, by kernel_rfl⟩, frCon_ok runF_okF h⟩
  · exact ⟨⟨Try.f20, Try.func20, by kernel_rfl, by kernel_rfl⟩, pureCon_ok vlives_ok h⟩
  · exact ⟨⟨Try.f29, Try.func29, by kernel_rfl, by kernel_rfl⟩, pureCon_ok eqInt_ok h⟩
  · exact ⟨⟨Try.f22, Try.func22, by kernel_rfl, by kernel_rfl⟩, pureCon_ok eqEmit_ok h⟩
  · exact ⟨⟨Try.f23, Try.func23, by kernel_rfl, by kernel_rfl⟩, pureCon_ok clEmit_ok h⟩
  · exact ⟨⟨Try.f24, Try.func24, by kernel_rfl, by kernel_rfl⟩, pureCon_ok clInt_ok h⟩
  · exact ⟨⟨Try.f21, Try.func21, by kernel_rfl, by kernel_rfl⟩, inl_ok envOk zl cSame_ok noDraws_ok Try.func21 h⟩
  · cases h
def dVC : FuncId → Option Dt := fun f => match f with
  | 19 => some (.f runF_D)
  | 24 => some (.n clIntN_N)
  | _ => none
theorem dVC_ok : DetOk Try.prog dVC := fun f d h => by
  unfold dVC at h
  split at h
  · cases h; exact ⟨⟨Try.f19, Try.func19, by kernel_rfl, by kernel_rfl⟩, runF_okF⟩
  · cases h; exact ⟨⟨Try.f24, Try.func24, by kernel_rfl, by kernel_rfl⟩, clIntN_okN⟩
  · cases h
set_option maxRecDepth 100000 in
set_option maxHeartbeats 4000000 in
theorem vblind_vc (p : (List Ins)) (v : Vm) (inp : (List Int)) (other : (List Int)) (fuel : Int) (fit_p : Siz.fit p) (fit_v : Siz.fit v) (fit_inp : Siz.fit inp) (fit_other : Siz.fit other) (fit_fuel : Siz.fit fuel) (hB : Siz.bulk p + Siz.bulk v + Siz.bulk inp + Siz.bulk other + Siz.bulk fuel ≤ 1048576) : FnOk Try.prog 10 [Leaf.av fun _ => p, .agg (Dat.enc fun _ => v), Leaf.av fun _ => inp, Leaf.av fun _ => other, .i .i64 fun _ => fuel] [] (outA (.bc true) []) := by
  refine fn_ok envOk zl cVC_ok (draws_ok envOk zl dVC_ok mixed) (keep := [0, 1, 2, 3, 4, 6, 10, 11, 12, 13, 14, 15, 16, 17, 18, 19, 20, 58]) Try.func10 rfl ?_
  have fin := @fin_b
  have finc := @fin_t
  have hl : p.length ≤ 1048576 ∧ v.regs.length ≤ 1048576 ∧ inp.length ≤ 1048576 ∧ other.length ≤ 1048576 := by
    have h1 := bulk_len Ins.one_le p
    have h2 := bulk_len (α := Int) (fun _ => Nat.le_add_left _ _) v.regs
    have h3 := bulk_len (α := Int) (fun _ => Nat.le_add_left _ _) inp
    have h4 := bulk_len (α := Int) (fun _ => Nat.le_add_left _ _) other
    simp only [Siz.bulk] at hB h1 h2 h3 h4
    omega
  generalize outA (.bc true) [] = K at fin finc
  cbv
  repeat' first | (show Stp _; exfalso; first | omega | (exact h ‹_›) | (exact absurd ‹_› h) | (exact Bool.false_ne_true (h.symm.trans (show _ = true by assumption)))) | (refine Stp.mk ?_; cbv) | (refine Gen.mk fun r hr => ?_; (try simp only [Dat.ok, Dat.dec, Leaf.ok, Leaf.val, Ins.eta, Vm.eta, Emit.eta, Msg.eta, val_sl, val_nil] at hr); cbv) | exact trivial | rfl | refine Both.mk ?_ ?_ | (refine Imp.mk fun h => ?_; (try dsimp only at h); (try simp only [nc, Int.toNat_natCast, Bool.not_eq_true', Bool.not_eq_false', decide_eq_true_eq, decide_eq_false_iff_not, beq_iff_eq, beq_eq_false_iff_ne, ba_inj, bne_iff_ne, ne_eq, Bool.and_eq_true, Bool.or_eq_true, Bool.and_eq_false_iff, Bool.or_eq_false_iff, Int.not_le, Int.not_lt, Nat.not_le, Nat.not_lt] at h); (try simp only [nc] at h)) | refine Ob.mk ?_ ?_ | refine Chk.mk (by kernel_rfl) ?_ | refine Eq'.mk ?_ | (refine AllN.mk fun i hi => ?_; cbv) | (refine AllS.mk fun r hr => ?_; (try simp only [Dat.ok, Dat.dec, Leaf.ok, Leaf.val, Ins.eta, Vm.eta, Emit.eta, Msg.eta, val_sl] at hr); cbv)
  all_goals ((try dsimp only at *); (try simp only [nc, Int.toNat_natCast, Bool.not_eq_true', Bool.not_eq_false', decide_eq_true_eq, decide_eq_false_iff_not, beq_iff_eq, beq_eq_false_iff_ne, ba_inj, bne_iff_ne, ne_eq, Bool.and_eq_true, Bool.or_eq_true, Bool.and_eq_false_iff, Bool.or_eq_false_iff, Int.not_le, Int.not_lt, Nat.not_le, Nat.not_lt] at *); (try simp only [nc] at *))
  all_goals try simp only [Dat.ok, Dat.dec, Leaf.ok, Leaf.val, Ins.eta, Vm.eta, Emit.eta, Msg.eta, val_sl] at *
  all_goals have ff : InR fuel := fit_fuel
  all_goals unfold InR at ff
  all_goals have hb1 := @runV_bd p v inp fuel
  all_goals first
    | exact finc
    | omega
    | (unfold InR; omega)
    | (exfalso; omega)
    | exact ⟨by omega, hb1.1, hb1.2.1⟩
    | exact ⟨⟨rfl, fun i _ => Dat.hok _⟩, ⟨trivial, ⟨rfl, fun i _ => Dat.hok _⟩, trivial, trivial⟩, ⟨rfl, fun i _ => Dat.hok _⟩, show _ ≤ _ by omega, show _ ≤ _ by omega, show _ ≤ _ by omega⟩
    | skip
  all_goals (
    have he : errV p v inp fuel = 0 := by rw [← runV_e]; assumption
    have hc : ¬ ((runV p v inp fuel).2.2.2.1 < fuel ∧ (runV p v inp fuel).2.2.1 = inp.length) := by
      intro q
      omega
    have vt := val_takeI inp 1 (runV p v inp fuel).2.2.1 hb1.1 hb1.2.1
    try simp only [vt] at *
    have hlt : (inp.take (runV p v inp fuel).2.2.1.toNat).length ≤ inp.length := by rw [List.length_take]; omega
    have va := val_app (α := Int) (inp.take (runV p v inp fuel).2.2.1.toNat) other 1 _ _ rfl rfl rfl
    try simp only [va] at *
    have hla : (inp.take (runV p v inp fuel).2.2.1.toNat ++ other).length ≤ inp.length + other.length := by rw [List.length_append]; omega
    first
      | exact ⟨⟨rfl, fun i _ => Dat.hok _⟩, show _ ≤ _ by omega⟩
      | exact ⟨Nat.le_refl _, trivial, by omega, by omega⟩
      | exact ⟨Nat.le_refl _, ⟨rfl, fun i _ => Dat.hok _⟩, ⟨trivial, ⟨rfl, fun i _ => Dat.hok _⟩, trivial, trivial⟩, ⟨rfl, fun i _ => ok_row rfl (Dat.hok _) (Dat.hok _)⟩, show _ ≤ _ by omega, show _ ≤ _ by omega, show _ ≤ _ by omega⟩
      | (have ho : (runV p v (inp.take (runV p v inp fuel).2.2.1.toNat ++ other) fuel).2.2.2.2 = 0 := by assumption
         have bl := blind_law he hc ho
         first
           | (rw [bl]; exact ⟨⟨rfl, fun i _ => Dat.hok _⟩, ⟨rfl, fun i _ => Dat.hok _⟩, show _ ≤ _ by omega⟩)
           | (rw [bl]; refine fin ?_; rw [beq_iff_eq])
           | (exfalso; rw [bl] at h; exact h rfl)
           | (exfalso; rw [bl] at h; revert h; unfold eqInt_S; simp; done)
           | (exfalso; rw [bl] at h; revert h; unfold eqEmit_S; simp; done))
      | fail)
section
open Go.ChangeShapes Go.WideShapes Go.ChangeAt Go.RowKit Go.Joins Go.Deep
set_option linter.unusedVariables false
theorem vblind_own : ownKnob Try.prog.godebug = none := by kernel_rfl
theorem vblind_laidOut : laidOutB Try.prog = true := by kernel_rfl
theorem vblind_readOk {ts : Array TypeId} (h : ts.toList.all (fun t => Try.prog.readableRec t && decide (t < Try.prog.types.size)) = true) : ∀ t ∈ ts.toList, Try.prog.readableRec t = true ∧ t < Try.prog.types.size := fun t ht => by
  have := List.all_eq_true.1 h t ht
  simpa using this
mutual
theorem vblind_bD {H : Type} : ∀ d : DataW H, Rows.uptoBulk d = bulkD d
  | .lit l => by cases l <;> simp [Rows.uptoBulk, bulkD]
  | .nil => by simp [Rows.uptoBulk, bulkD]
  | .ptr d => by simp [Rows.uptoBulk, bulkD, vblind_bD d]
  | .slice a b => by simp [Rows.uptoBulk, bulkD, vblind_bL a, vblind_bL b]
  | .agg a => by simp [Rows.uptoBulk, bulkD, vblind_bL a]
  | .iface _ d => by simp [Rows.uptoBulk, bulkD, vblind_bD d]
  | .map e => by simp [Rows.uptoBulk, bulkD, vblind_bE e]
  | .held _ => by simp [Rows.uptoBulk, bulkD]
theorem vblind_bL {H : Type} : ∀ d : List (DataW H), Rows.uptoBulkAll d = bulkL d
  | [] => by simp [Rows.uptoBulkAll, bulkL]
  | d :: r => by simp [Rows.uptoBulkAll, bulkL, vblind_bD d, vblind_bL r]
theorem vblind_bE {H : Type} : ∀ d : List (Lit × DataW H), Rows.uptoBulkEntries d = bulkE d
  | [] => by simp [Rows.uptoBulkEntries, bulkE]
  | d :: r => by simp [Rows.uptoBulkEntries, bulkE, vblind_bX d, vblind_bE r]
theorem vblind_bX {H : Type} : ∀ d : Lit × DataW H, Rows.uptoBulkEntry d = bulkX d
  | (l, d) => by cases l <;> simp [Rows.uptoBulkEntry, bulkX, vblind_bD d]
end
set_option maxRecDepth 100000 in
theorem vblind_lifted (os : Os) (started : os.Started) (H : Type) (enc : TypeId × Value → H) (F : Stop.Interp) :
    ReturnsInHanded {} Try.checked os 10 .any ((Rows.OpenSpec.upto Rows.vmBlindSpec).pre6 enc Try.prog Try.f10 Rows.vmBlindUptoRow.domain false) (((Rows.OpenSpec.upto Rows.vmBlindSpec).at F).post enc Try.prog Try.f10 false true false false) := by
  refine returnsInHanded_of_cond (C := Try.checked) (s := Rows.OpenSpec.upto Rows.vmBlindSpec) (k := Rows.uptoSmall) rfl vblind_own started (by kernel_rfl) Try.func10
    (OpenSpec.witness (enc := enc) (C := Try.checked) (s := Rows.OpenSpec.upto Rows.vmBlindSpec) (k := Rows.uptoSmall) rfl false ⟨#[], #[.slice none 0 0, .agg #[.int .i64 0, .slice none 0 0, .bool false, .bool false], .slice none 0 0, .slice none 0 0, .int .i64 0], []⟩ 8 (by kernel_rfl) (by kernel_rfl) (by kernel_rfl)
      (x := ([.nil, .agg [.lit (.int .i64 0), .nil, .lit (.bool false), .lit (.bool false)], .nil, .nil, .lit (.int .i64 0)], [], [])) (by kernel_rfl) rfl (by kernel_rfl)) ?_
  intro W base args ds gs before hval0 hW _ hk _
  show Calls Try.prog 10 args W fun e W' => ∃ v, e = .returned v ∧ Rows.vmBlindSpec.post enc Try.prog Try.f10 false true false false W args v W'
  have hval : ∀ (j : Nat) t v, Try.f10.params[j]? = some t → args[j]? = some v → Value.okWide Try.prog W .any base t v := hval0
  have hW' := hW
  have hlt := hW.lt
  obtain ⟨p, q, hA0, hV, rfl, hfz, hnd⟩ := hW
  have hA : DataW.TrodAll enc Try.prog W 0 (fun _ => true) true Try.f10.params.toList args.toList ds p := hA0
  have hA1 := hA
  rw [Try.params10] at hA hval
  obtain ⟨v0, vs0, d0, ds0, p0, q0, hargs, rfl, rfl, h0, r0⟩ := trodAll_cons hA
  obtain ⟨v1, vs1, d1, ds1, p1, q1, rfl, rfl, rfl, h1, r1⟩ := trodAll_cons r0
  obtain ⟨v2, vs2, d2, ds2, p2, q2, rfl, rfl, rfl, h2, r2⟩ := trodAll_cons r1
  obtain ⟨v3, vs3, d3, ds3, p3, q3, rfl, rfl, rfl, h3, r3⟩ := trodAll_cons r2
  obtain ⟨v4, vs4, d4, ds4, p4, q4, rfl, rfl, rfl, h4, r4⟩ := trodAll_cons r3
  obtain ⟨rfl, rfl, rfl⟩ := trodAll_nil r4
  obtain rfl : args = #[v0, v1, v2, v3, v4] := by cases args; simp_all
  obtain ⟨rfl, rfl⟩ := trodVars_none hV
  obtain ⟨z0, z'0, z''0, rfl⟩ := okWide_slice Try.underlying42 (hval 0 42 v0 rfl rfl)
  obtain ⟨y0, u0, b0, e0⟩ := arg_leaf (α := (List Ins)) (opn_slice Try.underlying42 (by kernel_rfl) (by decide) opn_Ins) rfl h0
  obtain ⟨cs1, rfl, _⟩ := okWide_struct Try.underlying45 (hval 1 45 v1 rfl rfl)
  obtain ⟨y1, u1, b1, e1⟩ := arg_agg (α := Vm) opn_Vm h1
  obtain ⟨z2, z'2, z''2, rfl⟩ := okWide_slice Try.underlying43 (hval 2 43 v2 rfl rfl)
  obtain ⟨y2, u2, b2, e2⟩ := arg_leaf (α := (List Int)) (opn_slice Try.underlying43 (by kernel_rfl) (by decide) (opn_int Try.underlying3)) rfl h2
  obtain ⟨z3, z'3, z''3, rfl⟩ := okWide_slice Try.underlying43 (hval 3 43 v3 rfl rfl)
  obtain ⟨y3, u3, b3, e3⟩ := arg_leaf (α := (List Int)) (opn_slice Try.underlying43 (by kernel_rfl) (by decide) (opn_int Try.underlying3)) rfl h3
  obtain ⟨z4, rfl⟩ := okWide_int Try.underlying3 (hval 4 3 v4 rfl rfl)
  obtain ⟨y4, u4, b4, e4⟩ := arg_leaf (α := Int) (opn_int Try.underlying3) rfl h4
  have hB : Siz.bulk y0 + Siz.bulk y1 + Siz.bulk y2 + Siz.bulk y3 + Siz.bulk y4 ≤ 1048576 := by
    have h := of_decide_eq_true hk
    rw [vblind_bL] at h
    simp only [List.append_nil, bulkL] at h
    omega
  have hR := repL_cons (M := fun _ => False) (β := fun _ => none) (cp := fun _ => 0) (.c e0) (repL_cons (M := fun _ => False) (β := fun _ => none) (cp := fun _ => 0) (.c e1) (repL_cons (M := fun _ => False) (β := fun _ => none) (cp := fun _ => 0) (.c e2) (repL_cons (M := fun _ => False) (β := fun _ => none) (cp := fun _ => 0) (.c e3) (repL_cons (M := fun _ => False) (β := fun _ => none) (cp := fun _ => 0) (.c e4) (repL_nil)))))
  refine (law_callsA (vblind_vc y0 y1 y2 y3 y4 u0 u1 u2 u3 u4 hB) hR).mono fun e W' ⟨he, bel⟩ => ?_
  subst he
  exact ⟨_, rfl, _, _, _, [], _, [], hW', trodAll_mk1 (shut_bool Try.underlying4 _), trodAll_below vblind_laidOut bel (vblind_readOk (by kernel_rfl)) (fun x hx => hlt x (List.mem_append_left _ hx)) hA1, rfl, bel.frame _, fun h => by cases h⟩
theorem VmBlind_proved : Rows.VmBlindUptoSaid :=
  OpenClaim.holds_of_cond 10 Try.f10 rfl rfl rfl rfl rfl rfl rfl ⟨rfl, rfl, rfl, rfl, rfl⟩ rfl rfl rfl rfl rfl (by kernel_rfl) Try.func10 (by kernel_rfl)
    (of_decide_eq_true (by kernel_rfl)) (by unfold Func.isWrapper; first | (rw [if_pos (by decide +kernel)]; kernel_rfl) | (rw [if_neg (by decide +kernel)]; exact ⟨rfl, rfl⟩))
    (fun os started H enc _ F => vblind_lifted os started H enc F)
end

end Go.Proofs.Ytjgobknjnjdphaa
