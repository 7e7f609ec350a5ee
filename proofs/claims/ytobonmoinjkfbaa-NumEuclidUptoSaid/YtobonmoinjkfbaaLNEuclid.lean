/- Euclid: what both share. -/
import Derived.Test.YtobonmoinjkfbaaNumR
set_option linter.all false
namespace Go.Proofs.Ytobonmoinjkfbaa
open Go Go.Abs

noncomputable def cNE : FuncId → Con := fun f => match f with
  | 13 => pureCon (detPC GcdN_D)
  | 14 => pureCon (detPC nlives_D)
  | _ => fun _ _ _ => Bad 1001
theorem cNE_ok : ConOk Try.prog cNE := fun f A H K h => by
  unfold cNE at h
  split at h
  · exact ⟨⟨Try.f13, Try.func13, by kernel_rfl, by kernel_rfl⟩, pureCon_ok GcdN_ok h⟩
  · exact ⟨⟨Try.f14, Try.func14, by kernel_rfl, by kernel_rfl⟩, pureCon_ok nlives_ok h⟩
  · cases h
def dNE : FuncId → Option Dt := fun f => match f with
  | 13 => some (.c GcdN_D)
  | _ => none
theorem dNE_ok : DetOk Try.prog dNE := fun f d h => by
  unfold dNE at h
  split at h
  · cases h; exact ⟨⟨Try.f13, Try.func13, by kernel_rfl, by kernel_rfl⟩, GcdN_ok⟩
  · cases h
set_option maxRecDepth 100000 in
set_option maxHeartbeats 4000000 in
theorem neucl_vc (a : Int) (b : Int) (d : Int) (fit_a : Siz.fit a) (fit_b : Siz.fit b) (fit_d : Siz.fit d) (hB : Siz.bulk a + Siz.bulk b + Siz.bulk d ≤ 1048576) : FnOk Try.prog 3 [.i .i64 fun _ => a, .i .i64 fun _ => b, .i .i64 fun _ => d] [] (outA (.bc true) []) := by
  refine fn_ok envOk zl cNE_ok (draws_ok envOk zl dNE_ok mixed) (keep := [0, 1, 2, 6, 7, 8, 9, 10, 11, 12, 39, 70, 90, 93]) Try.func3 rfl ?_
  have fin := @fin_b
  have finc := @fin_t
  generalize outA (.bc true) [] = K at fin finc
  cbv
  repeat' first | (show Stp _; exfalso; first | omega | (exact h ‹_›) | (exact absurd ‹_› h) | (exact Bool.false_ne_true (h.symm.trans (show _ = true by assumption)))) | (refine Stp.mk ?_; cbv) | (refine Gen.mk fun r hr => ?_; (try simp only [Dat.ok, Dat.dec, Leaf.ok, Leaf.val, Act.eta, Work.eta, Locked.eta, val_sl, val_nil] at hr); cbv) | exact trivial | rfl | refine Both.mk ?_ ?_ | (refine Imp.mk fun h => ?_; (try dsimp only at h); (try simp only [nc, Int.toNat_natCast, Bool.not_eq_true', Bool.not_eq_false', decide_eq_true_eq, decide_eq_false_iff_not, beq_iff_eq, beq_eq_false_iff_ne, ba_inj, bne_iff_ne, ne_eq, Bool.and_eq_true, Bool.or_eq_true, Bool.and_eq_false_iff, Bool.or_eq_false_iff, Int.not_le, Int.not_lt, Nat.not_le, Nat.not_lt] at h); (try simp only [nc] at h)) | refine Ob.mk ?_ ?_ | refine Chk.mk (by kernel_rfl) ?_ | refine Eq'.mk ?_ | (refine AllN.mk fun i hi => ?_; cbv) | (refine AllS.mk fun r hr => ?_; (try simp only [Dat.ok, Dat.dec, Leaf.ok, Leaf.val, Act.eta, Work.eta, Locked.eta, val_sl] at hr); cbv)
  all_goals ((try dsimp only at *); (try simp only [nc, Int.toNat_natCast, Bool.not_eq_true', Bool.not_eq_false', decide_eq_true_eq, decide_eq_false_iff_not, beq_iff_eq, beq_eq_false_iff_ne, ba_inj, bne_iff_ne, ne_eq, Bool.and_eq_true, Bool.or_eq_true, Bool.and_eq_false_iff, Bool.or_eq_false_iff, Int.not_le, Int.not_lt, Nat.not_le, Nat.not_lt] at *); (try simp only [nc] at *))
  all_goals simp only [Siz.bulk] at hB
  all_goals have hc : GcdV b a = GcdV a b := G_comm b a
  all_goals try simp only [hc] at *
  all_goals try (have hd := G_ok (a := a) (b := b) (by assumption))
  all_goals try (have e5 := hd.2.2.2.2)
  all_goals try (have gd := g_dvd a b; rw [← e5] at gd)
  all_goals try (have gp := g_pos (a := a) (b := b) (by omega) (by omega) (by assumption); rw [← e5] at gp)
  all_goals try (have hs : GcdV (a - b) b = ((GcdV a b).1, 0) := by rw [G_eq (by omega) (by omega) (by omega) (by omega), g_sub, e5])
  all_goals first
    | exact finc
    | omega
    | (unfold InR; omega)
    | exact absurd (tm.2 gd.1) (by assumption)
    | exact absurd (tm.2 gd.2) (by assumption)
    | (exfalso
       have q : ¬ (GcdV a b).1.tmod d = 0 := by assumption
       exact q (tm.2 (by rw [e5]; exact g_max (tm.1 (by assumption)) (tm.1 (by assumption)))))
    | exact fin (by rw [hs]; simp)
    | (exfalso; rw [hs] at h; exact h rfl)
    | exact fin (by simp)
    | (exfalso; simp_all; done)
    | fail
section
open Go.ChangeShapes Go.WideShapes Go.ChangeAt Go.RowKit Go.Joins Go.Deep
set_option linter.unusedVariables false
theorem neucl_own : ownKnob Try.prog.godebug = none := by kernel_rfl
theorem neucl_laidOut : laidOutB Try.prog = true := by kernel_rfl
theorem neucl_readOk {ts : Array TypeId} (h : ts.toList.all (fun t => Try.prog.readableRec t && decide (t < Try.prog.types.size)) = true) : ∀ t ∈ ts.toList, Try.prog.readableRec t = true ∧ t < Try.prog.types.size := fun t ht => by
  have := List.all_eq_true.1 h t ht
  simpa using this
mutual
theorem neucl_bD {H : Type} : ∀ d : DataW H, Rows.uptoBulk d = bulkD d
  | .lit l => by cases l <;> simp [Rows.uptoBulk, bulkD]
  | .nil => by simp [Rows.uptoBulk, bulkD]
  | .ptr d => by simp [Rows.uptoBulk, bulkD, neucl_bD d]
  | .slice a b => by simp [Rows.uptoBulk, bulkD, neucl_bL a, neucl_bL b]
  | .agg a => by simp [Rows.uptoBulk, bulkD, neucl_bL a]
  | .iface _ d => by simp [Rows.uptoBulk, bulkD, neucl_bD d]
  | .map e => by simp [Rows.uptoBulk, bulkD, neucl_bE e]
  | .held _ => by simp [Rows.uptoBulk, bulkD]
theorem neucl_bL {H : Type} : ∀ d : List (DataW H), Rows.uptoBulkAll d = bulkL d
  | [] => by simp [Rows.uptoBulkAll, bulkL]
  | d :: r => by simp [Rows.uptoBulkAll, bulkL, neucl_bD d, neucl_bL r]
theorem neucl_bE {H : Type} : ∀ d : List (Lit × DataW H), Rows.uptoBulkEntries d = bulkE d
  | [] => by simp [Rows.uptoBulkEntries, bulkE]
  | d :: r => by simp [Rows.uptoBulkEntries, bulkE, neucl_bX d, neucl_bE r]
theorem neucl_bX {H : Type} : ∀ d : Lit × DataW H, Rows.uptoBulkEntry d = bulkX d
  | (l, d) => by cases l <;> simp [Rows.uptoBulkEntry, bulkX, neucl_bD d]
end
set_option maxRecDepth 100000 in
theorem neucl_lifted (os : Os) (started : os.Started) (H : Type) (enc : TypeId × Value → H) (F : Stop.Interp) :
    ReturnsInHanded {} Try.checked os 3 .any ((Rows.OpenSpec.upto Rows.numEuclidSpec).pre6 enc Try.prog Try.f3 Rows.numEuclidUptoRow.domain false) (((Rows.OpenSpec.upto Rows.numEuclidSpec).at F).post enc Try.prog Try.f3 false true false false) := by
  refine returnsInHanded_of_cond (C := Try.checked) (s := Rows.OpenSpec.upto Rows.numEuclidSpec) (k := Rows.uptoSmall) rfl neucl_own started (by kernel_rfl) Try.func3
    (OpenSpec.witness (enc := enc) (C := Try.checked) (s := Rows.OpenSpec.upto Rows.numEuclidSpec) (k := Rows.uptoSmall) rfl false ⟨#[], #[.int .i64 0, .int .i64 0, .int .i64 0], []⟩ 8 (by kernel_rfl) (by kernel_rfl) (by kernel_rfl)
      (x := ([.lit (.int .i64 0), .lit (.int .i64 0), .lit (.int .i64 0)], [], [])) (by kernel_rfl) rfl (by kernel_rfl)) ?_
  intro W base args ds gs before hval0 hW _ hk _
  show Calls Try.prog 3 args W fun e W' => ∃ v, e = .returned v ∧ Rows.numEuclidSpec.post enc Try.prog Try.f3 false true false false W args v W'
  have hval : ∀ (j : Nat) t v, Try.f3.params[j]? = some t → args[j]? = some v → Value.okWide Try.prog W .any base t v := hval0
  have hW' := hW
  have hlt := hW.lt
  obtain ⟨p, q, hA0, hV, rfl, hfz, hnd⟩ := hW
  have hA : DataW.TrodAll enc Try.prog W 0 (fun _ => true) true Try.f3.params.toList args.toList ds p := hA0
  have hA1 := hA
  rw [Try.params3] at hA hval
  obtain ⟨v0, vs0, d0, ds0, p0, q0, hargs, rfl, rfl, h0, r0⟩ := trodAll_cons hA
  obtain ⟨v1, vs1, d1, ds1, p1, q1, rfl, rfl, rfl, h1, r1⟩ := trodAll_cons r0
  obtain ⟨v2, vs2, d2, ds2, p2, q2, rfl, rfl, rfl, h2, r2⟩ := trodAll_cons r1
  obtain ⟨rfl, rfl, rfl⟩ := trodAll_nil r2
  obtain rfl : args = #[v0, v1, v2] := by cases args; simp_all
  obtain ⟨rfl, rfl⟩ := trodVars_none hV
  obtain ⟨z0, rfl⟩ := okWide_int Try.underlying3 (hval 0 3 v0 rfl rfl)
  obtain ⟨y0, u0, b0, e0⟩ := arg_leaf (α := Int) (opn_int Try.underlying3) rfl h0
  obtain ⟨z1, rfl⟩ := okWide_int Try.underlying3 (hval 1 3 v1 rfl rfl)
  obtain ⟨y1, u1, b1, e1⟩ := arg_leaf (α := Int) (opn_int Try.underlying3) rfl h1
  obtain ⟨z2, rfl⟩ := okWide_int Try.underlying3 (hval 2 3 v2 rfl rfl)
  obtain ⟨y2, u2, b2, e2⟩ := arg_leaf (α := Int) (opn_int Try.underlying3) rfl h2
  have hB : Siz.bulk y0 + Siz.bulk y1 + Siz.bulk y2 ≤ 1048576 := by
    have h := of_decide_eq_true hk
    rw [neucl_bL] at h
    simp only [List.append_nil, bulkL] at h
    omega
  have hR := repL_cons (M := fun _ => False) (β := fun _ => none) (cp := fun _ => 0) (.c e0) (repL_cons (M := fun _ => False) (β := fun _ => none) (cp := fun _ => 0) (.c e1) (repL_cons (M := fun _ => False) (β := fun _ => none) (cp := fun _ => 0) (.c e2) (repL_nil)))
  refine (law_callsA (neucl_vc y0 y1 y2 u0 u1 u2 hB) hR).mono fun e W' ⟨he, bel⟩ => ?_
  subst he
  exact ⟨_, rfl, _, _, _, [], _, [], hW', trodAll_mk1 (shut_bool Try.underlying4 _), trodAll_below neucl_laidOut bel (neucl_readOk (by kernel_rfl)) (fun x hx => hlt x (List.mem_append_left _ hx)) hA1, rfl, bel.frame _, fun h => by cases h⟩
theorem NumEuclid_proved : Rows.NumEuclidUptoSaid :=
  OpenClaim.holds_of_cond 3 Try.f3 rfl rfl rfl rfl rfl rfl rfl ⟨rfl, rfl, rfl, rfl, rfl⟩ rfl rfl rfl rfl rfl (by kernel_rfl) Try.func3 (by kernel_rfl)
    (of_decide_eq_true (by kernel_rfl)) (by unfold Func.isWrapper; first | (rw [if_pos (by decide +kernel)]; kernel_rfl) | (rw [if_neg (by decide +kernel)]; exact ⟨rfl, rfl⟩))
    (fun os started H enc _ F => neucl_lifted os started H enc F)
end

end Go.Proofs.Ytobonmoinjkfbaa
