/- What span.Next tells is in the set, nothing ahead of it is, and it is no farther off than a frame; for all inputs. -/
import Derived.Test.YtmicojghbhhblaaSpL
import Derived.Test.YtmicojghbhhblaaSpanQ
set_option linter.all false
namespace Go.Proofs.Ytmicojghbhhblaa
open Go Go.Abs

theorem next_err {s : Set} {t : Int} (h : ¬ (nextV s t).2 = 0) : (nextV s t).1 = 0 := by
  unfold nextV at *
  split
  · split
    · rfl
    · split
      · rfl
      · exfalso
        apply h
        rw [if_pos (by assumption), if_neg (by assumption), if_neg (by assumption)]
        split <;> rfl
  · rfl
noncomputable def cSN : FuncId → Con := fun f => match f with
  | 24 => pureCon (detPC nextC_D)
  | 22 => pureCon (detPC hasC_D)
  | 18 => pureCon (detPC count_D)
  | 23 => pureCon (detPC spLives_D)
  | _ => fun _ _ _ => Bad 1001
theorem cSN_ok : ConOk Try.prog cSN := fun f A H K h => by
  unfold cSN at h
  split at h
  · exact ⟨⟨Try.f24, Try.func24, by kernel_rfl, by kernel_rfl⟩, pureCon_ok nextC_ok h⟩
  · exact ⟨⟨Try.f22, Try.func22, by kernel_rfl, by kernel_rfl⟩, pureCon_ok hasC_ok h⟩
  · exact ⟨⟨Try.f18, Try.func18, by kernel_rfl, by kernel_rfl⟩, pureCon_ok count_ok h⟩
  · exact ⟨⟨Try.f23, Try.func23, by kernel_rfl, by kernel_rfl⟩, pureCon_ok spLives_ok h⟩
  · cases h
set_option maxRecDepth 100000 in
set_option maxHeartbeats 4000000 in
theorem snext_vc (s : Set) (t : Int) (fit_s : Siz.fit s) (fit_t : Siz.fit t) (hB : Siz.bulk s + Siz.bulk t ≤ 1048576) : FnOk Try.prog 10 [.agg (Dat.enc fun _ => s), .i .i64 fun _ => t] [] (outA (.bc true) []) := by
  refine fn_ok envOk zl cSN_ok noDraws_ok (keep := [0, 1, 2, 4, 5, 6, 7, 8, 9, 10, 11, 12, 24, 44]) Try.func10 rfl ?_
  have fin := @fin_b
  have finc := @fin_t
  have hp' : s.spans.length ≤ 9223372036854775807 := by
    have h1 := bulk_len Span.one_le s.spans
    simp only [Siz.bulk] at hB h1
    omega
  generalize outA (.bc true) [] = K at fin finc
  cbv
  repeat' first | (show Stp _; exfalso; first | omega | (exact h ‹_›) | (exact absurd ‹_› h)) | (refine Stp.mk ?_; cbv) | (refine Gen.mk fun r hr => ?_; (try simp only [Dat.ok, Dat.dec, Leaf.ok, Leaf.val, Span.eta, Set.eta, val_sl, val_nil] at hr); cbv) | exact trivial | rfl | refine Both.mk ?_ ?_ | (refine Imp.mk fun h => ?_; (try dsimp only at h); (try simp only [nc, Int.toNat_natCast, Bool.not_eq_true', Bool.not_eq_false', decide_eq_true_eq, decide_eq_false_iff_not, beq_iff_eq, beq_eq_false_iff_ne, bne_iff_ne, ne_eq, Bool.and_eq_true, Bool.or_eq_true, Bool.and_eq_false_iff, Bool.or_eq_false_iff, Int.not_le, Int.not_lt, Nat.not_le, Nat.not_lt] at h); (try simp only [nc] at h)) | refine Ob.mk ?_ ?_ | refine Chk.mk (by kernel_rfl) ?_ | refine Eq'.mk ?_ | (refine AllN.mk fun i hi => ?_; cbv) | (refine AllS.mk fun r hr => ?_; (try simp only [Dat.ok, Dat.dec, Leaf.ok, Leaf.val, Span.eta, Set.eta, val_sl] at hr); cbv)
  all_goals ((try dsimp only at *); (try simp only [nc, Int.toNat_natCast, Bool.not_eq_true', Bool.not_eq_false', decide_eq_true_eq, decide_eq_false_iff_not, beq_iff_eq, beq_eq_false_iff_ne, bne_iff_ne, ne_eq, Bool.and_eq_true, Bool.or_eq_true, Bool.and_eq_false_iff, Bool.or_eq_false_iff, Int.not_le, Int.not_lt, Nat.not_le, Nat.not_lt] at *); (try simp only [nc] at *))
  all_goals try simp only [Dat.ok, Dat.dec, Leaf.ok, Leaf.val, Span.eta, Set.eta, val_sl] at *
  all_goals first
    | exact finc
    | exact ⟨⟨trivial, rfl, fun i _ => Dat.hok _⟩, hp'⟩
    | (refine fin ?_
       have := next_err (show ¬ (nextV s t).snd = 0 by assumption)
       simp [this]; done)
    | skip
  all_goals obtain ⟨hR, n0, n1, n2, n3, n4⟩ := next_law (s := s) (t := t) (n := (nextV s t).fst) (Prod.ext rfl (by assumption))
  all_goals have hs1 := hR.s1
  all_goals have hs2 := hR.s2
  all_goals first
    | (exfalso; omega)
    | (unfold InR; omega)
    | (refine fin ?_; exact decide_eq_true n3)
    | (obtain ⟨e1, e2, e3⟩ := n4 (by omega)
       simp only [e1, e2, e3] at *
       first
         | exact absurd rfl (by assumption)
         | (refine fin ?_; simp; done)
         | (exfalso; simp_all; done))
    | fail
section
open Go.ChangeShapes Go.WideShapes Go.ChangeAt Go.RowKit Go.Joins Go.Deep
set_option linter.unusedVariables false
theorem snext_own : ownKnob Try.prog.godebug = none := by kernel_rfl
theorem snext_laidOut : laidOutB Try.prog = true := by kernel_rfl
theorem snext_readOk {ts : Array TypeId} (h : ts.toList.all (fun t => Try.prog.readableRec t && decide (t < Try.prog.types.size)) = true) : ∀ t ∈ ts.toList, Try.prog.readableRec t = true ∧ t < Try.prog.types.size := fun t ht => by
  have := List.all_eq_true.1 h t ht
  simpa using this
mutual
theorem snext_bD {H : Type} : ∀ d : DataW H, Rows.uptoBulk d = bulkD d
  | .lit l => by cases l <;> simp [Rows.uptoBulk, bulkD]
  | .nil => by simp [Rows.uptoBulk, bulkD]
  | .ptr d => by simp [Rows.uptoBulk, bulkD, snext_bD d]
  | .slice a b => by simp [Rows.uptoBulk, bulkD, snext_bL a, snext_bL b]
  | .agg a => by simp [Rows.uptoBulk, bulkD, snext_bL a]
  | .iface _ d => by simp [Rows.uptoBulk, bulkD, snext_bD d]
  | .map e => by simp [Rows.uptoBulk, bulkD, snext_bE e]
  | .held _ => by simp [Rows.uptoBulk, bulkD]
theorem snext_bL {H : Type} : ∀ d : List (DataW H), Rows.uptoBulkAll d = bulkL d
  | [] => by simp [Rows.uptoBulkAll, bulkL]
  | d :: r => by simp [Rows.uptoBulkAll, bulkL, snext_bD d, snext_bL r]
theorem snext_bE {H : Type} : ∀ d : List (Lit × DataW H), Rows.uptoBulkEntries d = bulkE d
  | [] => by simp [Rows.uptoBulkEntries, bulkE]
  | d :: r => by simp [Rows.uptoBulkEntries, bulkE, snext_bX d, snext_bE r]
theorem snext_bX {H : Type} : ∀ d : Lit × DataW H, Rows.uptoBulkEntry d = bulkX d
  | (l, d) => by cases l <;> simp [Rows.uptoBulkEntry, bulkX, snext_bD d]
end
set_option maxRecDepth 100000 in
theorem snext_lifted (os : Os) (started : os.Started) (H : Type) (enc : TypeId × Value → H) (F : Stop.Interp) :
    ReturnsInHanded {} Try.checked os 10 .any ((Rows.OpenSpec.upto Rows.spanNextSpec).pre6 enc Try.prog Try.f10 Rows.spanNextUptoRow.domain false) (((Rows.OpenSpec.upto Rows.spanNextSpec).at F).post enc Try.prog Try.f10 false true false false) := by
  refine returnsInHanded_of_cond (C := Try.checked) (s := Rows.OpenSpec.upto Rows.spanNextSpec) (k := Rows.uptoSmall) rfl snext_own started (by kernel_rfl) Try.func10
    (OpenSpec.witness (enc := enc) (C := Try.checked) (s := Rows.OpenSpec.upto Rows.spanNextSpec) (k := Rows.uptoSmall) rfl false ⟨#[], #[.agg #[.int .i64 0, .slice none 0 0], .int .i64 0], []⟩ 8 (by kernel_rfl) (by kernel_rfl) (by kernel_rfl)
      (x := ([.agg [.lit (.int .i64 0), .nil], .lit (.int .i64 0)], [], [])) (by kernel_rfl) rfl (by kernel_rfl)) ?_
  intro W base args ds gs before hval0 hW _ hk _
  show Calls Try.prog 10 args W fun e W' => ∃ v, e = .returned v ∧ Rows.spanNextSpec.post enc Try.prog Try.f10 false true false false W args v W'
  have hval : ∀ (j : Nat) t v, Try.f10.params[j]? = some t → args[j]? = some v → Value.okWide Try.prog W .any base t v := hval0
  have hW' := hW
  have hlt := hW.lt
  obtain ⟨p, q, hA0, hV, rfl, hfz, hnd⟩ := hW
  have hA : DataW.TrodAll enc Try.prog W 0 (fun _ => true) true Try.f10.params.toList args.toList ds p := hA0
  have hA1 := hA
  rw [Try.params10] at hA hval
  obtain ⟨v0, vs0, d0, ds0, p0, q0, hargs, rfl, rfl, h0, r0⟩ := trodAll_cons hA
  obtain ⟨v1, vs1, d1, ds1, p1, q1, rfl, rfl, rfl, h1, r1⟩ := trodAll_cons r0
  obtain ⟨rfl, rfl, rfl⟩ := trodAll_nil r1
  obtain rfl : args = #[v0, v1] := by cases args; simp_all
  obtain ⟨rfl, rfl⟩ := trodVars_none hV
  obtain ⟨cs0, rfl, _⟩ := okWide_struct Try.underlying24 (hval 0 24 v0 rfl rfl)
  obtain ⟨y0, u0, b0, e0⟩ := arg_agg (α := Set) opn_Set h0
  obtain ⟨z1, rfl⟩ := okWide_int Try.underlying3 (hval 1 3 v1 rfl rfl)
  obtain ⟨y1, u1, b1, e1⟩ := arg_leaf (α := Int) (opn_int Try.underlying3) rfl h1
  have hB : Siz.bulk y0 + Siz.bulk y1 ≤ 1048576 := by
    have h := of_decide_eq_true hk
    rw [snext_bL] at h
    simp only [List.append_nil, bulkL] at h
    omega
  have hR := repL_cons (M := fun _ => False) (β := fun _ => none) (cp := fun _ => 0) (.c e0) (repL_cons (M := fun _ => False) (β := fun _ => none) (cp := fun _ => 0) (.c e1) (repL_nil))
  refine (law_callsA (snext_vc y0 y1 u0 u1 hB) hR).mono fun e W' ⟨he, bel⟩ => ?_
  subst he
  exact ⟨_, rfl, _, _, _, [], _, [], hW', trodAll_mk1 (shut_bool Try.underlying4 _), trodAll_below snext_laidOut bel (snext_readOk (by kernel_rfl)) (fun x hx => hlt x (List.mem_append_left _ hx)) hA1, rfl, bel.frame _, fun h => by cases h⟩
theorem SpanNext_proved : Rows.SpanNextUptoSaid :=
  OpenClaim.holds_of_cond 10 Try.f10 rfl rfl rfl rfl rfl rfl rfl ⟨rfl, rfl, rfl, rfl, rfl⟩ rfl rfl rfl rfl rfl (by kernel_rfl) Try.func10 (by kernel_rfl)
    (of_decide_eq_true (by kernel_rfl)) (by unfold Func.isWrapper; first | (rw [if_pos (by decide +kernel)]; kernel_rfl) | (rw [if_neg (by decide +kernel)]; exact ⟨rfl, rfl⟩))
    (fun os started H enc _ F => snext_lifted os started H enc F)
end

end Go.Proofs.Ytmicojghbhhblaa
