/- Where it fits there is enough for whatever number of times; for all inputs. -/
import Derived.Test.YtabchkekhpmpiaaTaskP
set_option linter.all false
namespace Go.Proofs.Ytabchkekhpmpiaa
open Go Go.Abs

noncomputable def cTF0 : FuncId → Con := fun f => match f with
  | 34 => pureCon (detPC Dmd_D)
  | 38 => pureCon (detPC leastP_D)
  | _ => fun _ _ _ => Bad 1001
theorem cTF0_ok : ConOk Try.prog cTF0 := fun f A H K h => by
  unfold cTF0 at h
  split at h
  · exact ⟨⟨Try.f34, Try.func34, by kernel_rfl, by kernel_rfl⟩, pureCon_ok Dmd_ok h⟩
  · exact ⟨⟨Try.f38, Try.func38, by kernel_rfl, by kernel_rfl⟩, pureCon_ok leastP_ok h⟩
  · cases h
noncomputable def cTF : FuncId → Con := fun f => match f with
  | 36 => pureCon (detPC fits_D)
  | 35 => pureCon (detPC tlives_D)
  | 37 => inlCon E cTF0 noDraws [0, 1, 2, 4, 5, 6, 7, 8] Try.f37
  | _ => fun _ _ _ => Bad 1001
theorem cTF_ok : ConOk Try.prog cTF := fun f A H K h => by
  unfold cTF at h
  split at h
  · exact ⟨⟨Try.f36, Try.func36, by kernel_rfl, by kernel_rfl⟩, pureCon_ok fits_ok h⟩
  · exact ⟨⟨Try.f35, Try.func35, by kernel_rfl, by kernel_rfl⟩, pureCon_ok tlives_ok h⟩
  · exact ⟨⟨Try.f37, Try.func37, by kernel_rfl, by kernel_rfl⟩, inl_ok envOk zl cTF0_ok noDraws_ok Try.func37 h⟩
  · cases h
set_option maxRecDepth 100000 in
set_option maxHeartbeats 4000000 in
theorem tfit_vc (l : (List Task)) (s : Set) (n : Int) (fit_l : Siz.fit l) (fit_s : Siz.fit s) (fit_n : Siz.fit n) (hB : Siz.bulk l + Siz.bulk s + Siz.bulk n ≤ 1048576) : FnOk Try.prog 10 [Leaf.av fun _ => l, .agg (Dat.enc fun _ => s), .i .i64 fun _ => n] [] (outA (.bc true) []) := by
  refine fn_ok envOk zl cTF_ok noDraws_ok (keep := [0, 1, 2, 3, 4, 6, 7, 8, 9, 10, 23, 39, 47]) Try.func10 rfl ?_
  have fin := @fin_b
  have finc := @fin_t
  have hl : l.length ≤ 9223372036854775807 ∧ s.spans.length ≤ 9223372036854775807 := by
    have h1 := bulk_len Span.one_le s.spans
    have h2 := bulk_len (α := Task) Task.one_le l
    simp only [Siz.bulk] at hB h1 h2
    omega
  generalize outA (.bc true) [] = K at fin finc
  cbv
  repeat' first | (show Stp _; exfalso; first | omega | (exact h ‹_›) | (exact absurd ‹_› h) | (exact Bool.false_ne_true (h.symm.trans (show _ = true by assumption)))) | (refine Stp.mk ?_; cbv) | (refine Gen.mk fun r hr => ?_; (try simp only [Dat.ok, Dat.dec, Leaf.ok, Leaf.val, Span.eta, Set.eta, Task.eta, Done.eta, Late.eta, val_sl, val_nil] at hr); cbv) | exact trivial | rfl | refine Both.mk ?_ ?_ | (refine Imp.mk fun h => ?_; (try dsimp only at h); (try simp only [nc, Int.toNat_natCast, Bool.not_eq_true', Bool.not_eq_false', decide_eq_true_eq, decide_eq_false_iff_not, beq_iff_eq, beq_eq_false_iff_ne, ba_inj, bne_iff_ne, ne_eq, Bool.and_eq_true, Bool.or_eq_true, Bool.and_eq_false_iff, Bool.or_eq_false_iff, Int.not_le, Int.not_lt, Nat.not_le, Nat.not_lt] at h); (try simp only [nc] at h)) | refine Ob.mk ?_ ?_ | refine Chk.mk (by kernel_rfl) ?_ | refine Eq'.mk ?_ | (refine AllN.mk fun i hi => ?_; cbv) | (refine AllS.mk fun r hr => ?_; (try simp only [Dat.ok, Dat.dec, Leaf.ok, Leaf.val, Span.eta, Set.eta, Task.eta, Done.eta, Late.eta, val_sl] at hr); cbv)
  all_goals ((try dsimp only at *); (try simp only [nc, Int.toNat_natCast, Bool.not_eq_true', Bool.not_eq_false', decide_eq_true_eq, decide_eq_false_iff_not, beq_iff_eq, beq_eq_false_iff_ne, ba_inj, bne_iff_ne, ne_eq, Bool.and_eq_true, Bool.or_eq_true, Bool.and_eq_false_iff, Bool.or_eq_false_iff, Int.not_le, Int.not_lt, Nat.not_le, Nat.not_lt] at *); (try simp only [nc] at *))
  all_goals try simp only [Dat.dec, Leaf.val, Span.eta, Set.eta, Task.eta, Done.eta, Late.eta, val_sl] at *
  all_goals try simp only [leastP_S] at *
  all_goals first
    | exact finc
    | exact ⟨⟨rfl, fun i _ => Dat.hok _⟩, show _ ≤ _ by omega⟩
    | exact ⟨⟨trivial, rfl, fun i _ => Dat.hok _⟩, show _ ≤ _ by omega⟩
    | exact ⟨⟨rfl, fun i _ => Dat.hok _⟩, ⟨trivial, rfl, fun i _ => Dat.hok _⟩, hl⟩
    | (have hn := fit_no (by assumption)
       first
         | exact fin (by rw [hn.2]; rfl)
         | (exfalso; have := hn.1; simp_all; done))
    | skip
  all_goals obtain ⟨F1, F2⟩ := fit_all (by assumption : (fitsV l s).2.2 = 0)
  all_goals first
    | (have hh : (fitsV l s).1 = true := by assumption
       have a := F1 hh
       have b := a.2 n (by omega) (by omega)
       first
         | exact fin (decide_eq_true b.2.2)
         | (exfalso; omega))
    | (have hh : (fitsV l s).1 = false := by assumption
       have a := F2 hh
       first
         | (exfalso; omega)
         | (refine fin ?_; simp only [Bool.not_eq_true', decide_eq_false_iff_not]; omega)
         | (have b := a.2 n (by omega) (by omega)
            first
              | exact fin (decide_eq_true b.2.2)
              | (exfalso; omega)))
    | (have hh : (fitsV l s).1 = false := by assumption
       obtain ⟨⟨a1, a2, a3, a4, a5⟩, -⟩ := F2 hh
       refine fin ?_
       show (!decide _) = true
       rw [Bool.not_eq_true', decide_eq_false_iff_not]
       omega)
    | (have hh : (fitsV l s).1 = false := by assumption
       obtain ⟨⟨a1, a2, a3, a4, a5⟩, -⟩ := F2 hh
       refine fin ?_
       simp only [Bool.not_eq_true']
       exact decide_eq_false (by omega))
    | fail
section
open Go.ChangeShapes Go.WideShapes Go.ChangeAt Go.RowKit Go.Joins Go.Deep
set_option linter.unusedVariables false
theorem tfit_own : ownKnob Try.prog.godebug = none := by kernel_rfl
theorem tfit_laidOut : laidOutB Try.prog = true := by kernel_rfl
theorem tfit_readOk {ts : Array TypeId} (h : ts.toList.all (fun t => Try.prog.readableRec t && decide (t < Try.prog.types.size)) = true) : ∀ t ∈ ts.toList, Try.prog.readableRec t = true ∧ t < Try.prog.types.size := fun t ht => by
  have := List.all_eq_true.1 h t ht
  simpa using this
mutual
theorem tfit_bD {H : Type} : ∀ d : DataW H, Rows.uptoBulk d = bulkD d
  | .lit l => by cases l <;> simp [Rows.uptoBulk, bulkD]
  | .nil => by simp [Rows.uptoBulk, bulkD]
  | .ptr d => by simp [Rows.uptoBulk, bulkD, tfit_bD d]
  | .slice a b => by simp [Rows.uptoBulk, bulkD, tfit_bL a, tfit_bL b]
  | .agg a => by simp [Rows.uptoBulk, bulkD, tfit_bL a]
  | .iface _ d => by simp [Rows.uptoBulk, bulkD, tfit_bD d]
  | .map e => by simp [Rows.uptoBulk, bulkD, tfit_bE e]
  | .held _ => by simp [Rows.uptoBulk, bulkD]
theorem tfit_bL {H : Type} : ∀ d : List (DataW H), Rows.uptoBulkAll d = bulkL d
  | [] => by simp [Rows.uptoBulkAll, bulkL]
  | d :: r => by simp [Rows.uptoBulkAll, bulkL, tfit_bD d, tfit_bL r]
theorem tfit_bE {H : Type} : ∀ d : List (Lit × DataW H), Rows.uptoBulkEntries d = bulkE d
  | [] => by simp [Rows.uptoBulkEntries, bulkE]
  | d :: r => by simp [Rows.uptoBulkEntries, bulkE, tfit_bX d, tfit_bE r]
theorem tfit_bX {H : Type} : ∀ d : Lit × DataW H, Rows.uptoBulkEntry d = bulkX d
  | (l, d) => by cases l <;> simp [Rows.uptoBulkEntry, bulkX, tfit_bD d]
end
set_option maxRecDepth 100000 in
theorem tfit_lifted (os : Os) (started : os.Started) (H : Type) (enc : TypeId × Value → H) (F : Stop.Interp) :
    ReturnsInHanded {} Try.checked os 10 .any ((Rows.OpenSpec.upto Rows.taskFitSpec).pre6 enc Try.prog Try.f10 Rows.taskFitUptoRow.domain false) (((Rows.OpenSpec.upto Rows.taskFitSpec).at F).post enc Try.prog Try.f10 false true false false) := by
  refine returnsInHanded_of_cond (C := Try.checked) (s := Rows.OpenSpec.upto Rows.taskFitSpec) (k := Rows.uptoSmall) rfl tfit_own started (by kernel_rfl) Try.func10
    (OpenSpec.witness (enc := enc) (C := Try.checked) (s := Rows.OpenSpec.upto Rows.taskFitSpec) (k := Rows.uptoSmall) rfl false ⟨#[], #[.slice none 0 0, .agg #[.int .i64 0, .slice none 0 0], .int .i64 0], []⟩ 8 (by kernel_rfl) (by kernel_rfl) (by kernel_rfl)
      (x := ([.nil, .agg [.lit (.int .i64 0), .nil], .lit (.int .i64 0)], [], [])) (by kernel_rfl) rfl (by kernel_rfl)) ?_
  intro W base args ds gs before hval0 hW _ hk _
  show Calls Try.prog 10 args W fun e W' => ∃ v, e = .returned v ∧ Rows.taskFitSpec.post enc Try.prog Try.f10 false true false false W args v W'
  have hval : ∀ (j : Nat) t v, Try.f10.params[j]? = some t → args[j]? = some v → Value.okWide Try.prog W .any base t v := hval0
  have hW' := hW
  have hlt := hW.lt
  obtain ⟨p, q, hA0, hV, rfl, hfz, hnd⟩ := hW
  have hA : DataW.TrodAll enc Try.prog W 0 (fun _ => true) true Try.f10.params.toList args.toList ds p := hA0
  have hA1 := hA
  rw [Try.params10] at hA hval
  obtain ⟨v0, vs0, d0, ds0, p0, q0, hargs, rfl, rfl, h0, r0⟩ := trodAll_cons hA
  obtain ⟨v1, vs1, d1, ds1, p1, q1, rfl, rfl, rfl, h1, r1⟩ := trodAll_cons r0
  obtain ⟨v2, vs2, d2, ds2, p2, q2, rfl, rfl, rfl, h2, r2⟩ := trodAll_cons r1
  obtain ⟨rfl, rfl, rfl⟩ := trodAll_nil r2
  obtain rfl : args = #[v0, v1, v2] := by cases args; simp_all
  obtain ⟨rfl, rfl⟩ := trodVars_none hV
  obtain ⟨z0, z'0, z''0, rfl⟩ := okWide_slice Try.underlying22 (hval 0 22 v0 rfl rfl)
  obtain ⟨y0, u0, b0, e0⟩ := arg_leaf (α := (List Task)) (opn_slice Try.underlying22 (by kernel_rfl) (by decide) opn_Task) rfl h0
  obtain ⟨cs1, rfl, _⟩ := okWide_struct Try.underlying25 (hval 1 25 v1 rfl rfl)
  obtain ⟨y1, u1, b1, e1⟩ := arg_agg (α := Set) opn_Set h1
  obtain ⟨z2, rfl⟩ := okWide_int Try.underlying3 (hval 2 3 v2 rfl rfl)
  obtain ⟨y2, u2, b2, e2⟩ := arg_leaf (α := Int) (opn_int Try.underlying3) rfl h2
  have hB : Siz.bulk y0 + Siz.bulk y1 + Siz.bulk y2 ≤ 1048576 := by
    have h := of_decide_eq_true hk
    rw [tfit_bL] at h
    simp only [List.append_nil, bulkL] at h
    omega
  have hR := repL_cons (M := fun _ => False) (β := fun _ => none) (cp := fun _ => 0) (.c e0) (repL_cons (M := fun _ => False) (β := fun _ => none) (cp := fun _ => 0) (.c e1) (repL_cons (M := fun _ => False) (β := fun _ => none) (cp := fun _ => 0) (.c e2) (repL_nil)))
  refine (law_callsA (tfit_vc y0 y1 y2 u0 u1 u2 hB) hR).mono fun e W' ⟨he, bel⟩ => ?_
  subst he
  exact ⟨_, rfl, _, _, _, [], _, [], hW', trodAll_mk1 (shut_bool Try.underlying4 _), trodAll_below tfit_laidOut bel (tfit_readOk (by kernel_rfl)) (fun x hx => hlt x (List.mem_append_left _ hx)) hA1, rfl, bel.frame _, fun h => by cases h⟩
theorem TaskFit_proved : Rows.TaskFitUptoSaid :=
  OpenClaim.holds_of_cond 10 Try.f10 rfl rfl rfl rfl rfl rfl rfl ⟨rfl, rfl, rfl, rfl, rfl⟩ rfl rfl rfl rfl rfl (by kernel_rfl) Try.func10 (by kernel_rfl)
    (of_decide_eq_true (by kernel_rfl)) (by unfold Func.isWrapper; first | (rw [if_pos (by decide +kernel)]; kernel_rfl) | (rw [if_neg (by decide +kernel)]; exact ⟨rfl, rfl⟩))
    (fun os started H enc _ F => tfit_lifted os started H enc F)
end

end Go.Proofs.Ytabchkekhpmpiaa
