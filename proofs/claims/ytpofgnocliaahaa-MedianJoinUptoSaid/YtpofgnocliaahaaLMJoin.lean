/- Who is told of two lists is told of both; for all inputs. -/
import Derived.Test.YtpofgnocliaahaaMedP
set_option linter.all false
namespace Go.Proofs.Ytpofgnocliaahaa
open Go Go.Abs

noncomputable def cMJ : FuncId → Con := fun f => match f with
  | 8 => pureCon (detPC most_D)
  | 9 => pureCon (detPC mlives_D)
  | 10 => pureCon clStr_C
  | _ => fun _ _ _ => Bad 1001
theorem cMJ_ok : ConOk Try.prog cMJ := fun f A H K h => by
  unfold cMJ at h
  split at h
  · exact ⟨⟨Try.f8, Try.func8, by kernel_rfl, by kernel_rfl⟩, pureCon_ok most_ok h⟩
  · exact ⟨⟨Try.f9, Try.func9, by kernel_rfl, by kernel_rfl⟩, pureCon_ok mlives_ok h⟩
  · exact ⟨⟨Try.f10, Try.func10, by kernel_rfl, by kernel_rfl⟩, pureCon_ok clStr_ok h⟩
  · cases h
def dMJ : FuncId → Option Dt := fun f => match f with
  | _ => none
theorem dMJ_ok : DetOk Try.prog dMJ := fun f d h => by
  unfold dMJ at h
  split at h
  · cases h
set_option maxRecDepth 100000 in
set_option maxHeartbeats 4000000 in
theorem mjoin_vc (a : (List ByteArray)) (b : (List ByteArray)) (fit_a : Siz.fit a) (fit_b : Siz.fit b) (hB : Siz.bulk a + Siz.bulk b ≤ 1048576) : FnOk Try.prog 3 [Leaf.av fun _ => a, Leaf.av fun _ => b] [] (outA (.bc true) []) := by
  refine fn_ok envOk zl cMJ_ok (draws_ok envOk zl dMJ_ok mixed) (keep := [0, 1, 4, 5, 6, 7, 8, 9, 10, 11, 12, 13, 14, 15, 16, 53]) Try.func3 rfl ?_
  have fin := @fin_b
  have finc := @fin_t
  have hl : a.length ≤ 1048576 ∧ b.length ≤ 1048576 := by
    have h1 := bulk_len (α := ByteArray) (fun _ => Nat.le_add_left _ _) a
    have h2 := bulk_len (α := ByteArray) (fun _ => Nat.le_add_left _ _) b
    simp only [Siz.bulk] at hB h1 h2
    omega
  generalize outA (.bc true) [] = K at fin finc
  cbv
  repeat' first | (show Stp _; exfalso; first | omega | (exact h ‹_›) | (exact absurd ‹_› h) | (exact Bool.false_ne_true (h.symm.trans (show _ = true by assumption)))) | (refine Stp.mk ?_; cbv) | (refine Gen.mk fun r hr => ?_; (try simp only [Dat.ok, Dat.dec, Leaf.ok, Leaf.val, val_sl, val_nil] at hr); cbv) | exact trivial | rfl | refine Both.mk ?_ ?_ | (refine Imp.mk fun h => ?_; (try dsimp only at h); (try simp only [nc, Int.toNat_natCast, Bool.not_eq_true', Bool.not_eq_false', decide_eq_true_eq, decide_eq_false_iff_not, beq_iff_eq, beq_eq_false_iff_ne, ba_inj, bne_iff_ne, ne_eq, Bool.and_eq_true, Bool.or_eq_true, Bool.and_eq_false_iff, Bool.or_eq_false_iff, Int.not_le, Int.not_lt, Nat.not_le, Nat.not_lt] at h); (try simp only [nc] at h)) | refine Ob.mk ?_ ?_ | refine Chk.mk (by kernel_rfl) ?_ | refine Eq'.mk ?_ | (refine AllN.mk fun i hi => ?_; cbv) | (refine AllS.mk fun r hr => ?_; (try simp only [Dat.ok, Dat.dec, Leaf.ok, Leaf.val, val_sl] at hr); cbv)
  all_goals ((try dsimp only at *); (try simp only [nc, Int.toNat_natCast, Bool.not_eq_true', Bool.not_eq_false', decide_eq_true_eq, decide_eq_false_iff_not, beq_iff_eq, beq_eq_false_iff_ne, ba_inj, bne_iff_ne, ne_eq, Bool.and_eq_true, Bool.or_eq_true, Bool.and_eq_false_iff, Bool.or_eq_false_iff, Int.not_le, Int.not_lt, Nat.not_le, Nat.not_lt] at *); (try simp only [nc] at *))
  all_goals try simp only [Dat.ok, Dat.dec, Leaf.ok, Leaf.val, val_sl, val_app (α := ByteArray) _ _ 1 _ _ rfl rfl rfl] at *
  all_goals try (rename (_ = a) => hq; have hq2 := hq.symm; clear hq; subst hq2)
  all_goals first
    | exact finc
    | exact Nat.le_refl _
    | exact ⟨rfl, fun i _ => Dat.hok _⟩
    | exact ⟨⟨rfl, fun i _ => Dat.hok _⟩, show _ ≤ _ by omega⟩
    | exact ⟨Nat.le_refl _, trivial, by omega, by omega⟩
    | exact ⟨rfl, fun i _ => ok_row rfl (Dat.hok _) (Dat.hok _)⟩
    | skip
  all_goals first
    | exact ⟨⟨rfl, fun i _ => ok_row rfl (Dat.hok _) (Dat.hok _)⟩, show (a ++ b).length ≤ _ by rw [List.length_append]; omega⟩
    | (have m1 := most_tell (l := a) (by assumption)
       have m2 := most_tell (l := b) (by assumption)
       have c1 := cntS_bd (mostV a).1 a
       have c2 := cntS_bd (mostV b).1 b
       unfold InR; omega)
    | (have hj := join_ok (a := a) (b := b) (by assumption) (by assumption) (by assumption) (by assumption)
       first
         | (exfalso; rw [hj] at h; first | exact h rfl | exact Bool.noConfusion h)
         | (refine fin ?_; rw [hj]; simp))
    | fail
section
open Go.ChangeShapes Go.WideShapes Go.ChangeAt Go.RowKit Go.Joins Go.Deep
set_option linter.unusedVariables false
theorem mjoin_own : ownKnob Try.prog.godebug = none := by kernel_rfl
theorem mjoin_laidOut : laidOutB Try.prog = true := by kernel_rfl
theorem mjoin_readOk {ts : Array TypeId} (h : ts.toList.all (fun t => Try.prog.readableRec t && decide (t < Try.prog.types.size)) = true) : ∀ t ∈ ts.toList, Try.prog.readableRec t = true ∧ t < Try.prog.types.size := fun t ht => by
  have := List.all_eq_true.1 h t ht
  simpa using this
mutual
theorem mjoin_bD {H : Type} : ∀ d : DataW H, Rows.uptoBulk d = bulkD d
  | .lit l => by cases l <;> simp [Rows.uptoBulk, bulkD]
  | .nil => by simp [Rows.uptoBulk, bulkD]
  | .ptr d => by simp [Rows.uptoBulk, bulkD, mjoin_bD d]
  | .slice a b => by simp [Rows.uptoBulk, bulkD, mjoin_bL a, mjoin_bL b]
  | .agg a => by simp [Rows.uptoBulk, bulkD, mjoin_bL a]
  | .iface _ d => by simp [Rows.uptoBulk, bulkD, mjoin_bD d]
  | .map e => by simp [Rows.uptoBulk, bulkD, mjoin_bE e]
  | .held _ => by simp [Rows.uptoBulk, bulkD]
theorem mjoin_bL {H : Type} : ∀ d : List (DataW H), Rows.uptoBulkAll d = bulkL d
  | [] => by simp [Rows.uptoBulkAll, bulkL]
  | d :: r => by simp [Rows.uptoBulkAll, bulkL, mjoin_bD d, mjoin_bL r]
theorem mjoin_bE {H : Type} : ∀ d : List (Lit × DataW H), Rows.uptoBulkEntries d = bulkE d
  | [] => by simp [Rows.uptoBulkEntries, bulkE]
  | d :: r => by simp [Rows.uptoBulkEntries, bulkE, mjoin_bX d, mjoin_bE r]
theorem mjoin_bX {H : Type} : ∀ d : Lit × DataW H, Rows.uptoBulkEntry d = bulkX d
  | (l, d) => by cases l <;> simp [Rows.uptoBulkEntry, bulkX, mjoin_bD d]
end
set_option maxRecDepth 100000 in
theorem mjoin_lifted (os : Os) (started : os.Started) (H : Type) (enc : TypeId × Value → H) (F : Stop.Interp) :
    ReturnsInHanded {} Try.checked os 3 .any ((Rows.OpenSpec.upto Rows.medianJoinSpec).pre6 enc Try.prog Try.f3 Rows.medianJoinUptoRow.domain false) (((Rows.OpenSpec.upto Rows.medianJoinSpec).at F).post enc Try.prog Try.f3 false true false false) := by
  refine returnsInHanded_of_cond (C := Try.checked) (s := Rows.OpenSpec.upto Rows.medianJoinSpec) (k := Rows.uptoSmall) rfl mjoin_own started (by kernel_rfl) Try.func3
    (OpenSpec.witness (enc := enc) (C := Try.checked) (s := Rows.OpenSpec.upto Rows.medianJoinSpec) (k := Rows.uptoSmall) rfl false ⟨#[], #[.slice none 0 0, .slice none 0 0], []⟩ 8 (by kernel_rfl) (by kernel_rfl) (by kernel_rfl)
      (x := ([.nil, .nil], [], [])) (by kernel_rfl) rfl (by kernel_rfl)) ?_
  intro W base args ds gs before hval0 hW _ hk _
  show Calls Try.prog 3 args W fun e W' => ∃ v, e = .returned v ∧ Rows.medianJoinSpec.post enc Try.prog Try.f3 false true false false W args v W'
  have hval : ∀ (j : Nat) t v, Try.f3.params[j]? = some t → args[j]? = some v → Value.okWide Try.prog W .any base t v := hval0
  have hW' := hW
  have hlt := hW.lt
  obtain ⟨p, q, hA0, hV, rfl, hfz, hnd⟩ := hW
  have hA : DataW.TrodAll enc Try.prog W 0 (fun _ => true) true Try.f3.params.toList args.toList ds p := hA0
  have hA1 := hA
  rw [Try.params3] at hA hval
  obtain ⟨v0, vs0, d0, ds0, p0, q0, hargs, rfl, rfl, h0, r0⟩ := trodAll_cons hA
  obtain ⟨v1, vs1, d1, ds1, p1, q1, rfl, rfl, rfl, h1, r1⟩ := trodAll_cons r0
  obtain ⟨rfl, rfl, rfl⟩ := trodAll_nil r1
  obtain rfl : args = #[v0, v1] := by cases args; simp_all
  obtain ⟨rfl, rfl⟩ := trodVars_none hV
  obtain ⟨z0, z'0, z''0, rfl⟩ := okWide_slice Try.underlying22 (hval 0 22 v0 rfl rfl)
  obtain ⟨y0, u0, b0, e0⟩ := arg_leaf (α := (List ByteArray)) (opn_slice Try.underlying22 (by kernel_rfl) (by decide) (opn_str Try.underlying9)) rfl h0
  obtain ⟨z1, z'1, z''1, rfl⟩ := okWide_slice Try.underlying22 (hval 1 22 v1 rfl rfl)
  obtain ⟨y1, u1, b1, e1⟩ := arg_leaf (α := (List ByteArray)) (opn_slice Try.underlying22 (by kernel_rfl) (by decide) (opn_str Try.underlying9)) rfl h1
  have hB : Siz.bulk y0 + Siz.bulk y1 ≤ 1048576 := by
    have h := of_decide_eq_true hk
    rw [mjoin_bL] at h
    simp only [List.append_nil, bulkL] at h
    omega
  have hR := repL_cons (M := fun _ => False) (β := fun _ => none) (cp := fun _ => 0) (.c e0) (repL_cons (M := fun _ => False) (β := fun _ => none) (cp := fun _ => 0) (.c e1) (repL_nil))
  refine (law_callsA (mjoin_vc y0 y1 u0 u1 hB) hR).mono fun e W' ⟨he, bel⟩ => ?_
  subst he
  exact ⟨_, rfl, _, _, _, [], _, [], hW', trodAll_mk1 (shut_bool Try.underlying4 _), trodAll_below mjoin_laidOut bel (mjoin_readOk (by kernel_rfl)) (fun x hx => hlt x (List.mem_append_left _ hx)) hA1, rfl, bel.frame _, fun h => by cases h⟩
theorem MedianJoin_proved : Rows.MedianJoinUptoSaid :=
  OpenClaim.holds_of_cond 3 Try.f3 rfl rfl rfl rfl rfl rfl rfl ⟨rfl, rfl, rfl, rfl, rfl⟩ rfl rfl rfl rfl rfl (by kernel_rfl) Try.func3 (by kernel_rfl)
    (of_decide_eq_true (by kernel_rfl)) (by unfold Func.isWrapper; first | (rw [if_pos (by decide +kernel)]; kernel_rfl) | (rw [if_neg (by decide +kernel)]; exact ⟨rfl, rfl⟩))
    (fun os started H enc _ F => mjoin_lifted os started H enc F)
end

end Go.Proofs.Ytpofgnocliaahaa
