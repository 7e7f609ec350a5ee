/- Times of a set are counted piece by piece; a frame later there are as many; of one time it is whether it is in the set; for all inputs. -/
import Derived.Test.YtmicojghbhhblaaSpL
import Derived.Test.YtmicojghbhhblaaSpanQ
set_option linter.all false
namespace Go.Proofs.Ytmicojghbhhblaa
open Go Go.Abs

theorem c_ok {s : Set} {a b : Int} (h : (countV s a b).2 = 0) : Right s ∧ 0 ≤ a ∧ a ≤ b ∧ b ≤ 1099511627776 := by
  unfold countV at h
  split at h
  · rename_i hc
    split at h
    · cases h
    · exact ⟨check_iff.1 hc, by omega, by omega, by omega⟩
  · rename_i hc; exact absurd h hc
theorem c_err {s : Set} {a b : Int} (h : ¬ (countV s a b).2 = 0) : (countV s a b).1 = 0 := by
  unfold countV at *
  split
  · split
    · rfl
    · exfalso
      apply h
      rw [if_pos (by assumption), if_neg (by assumption)]
  · rfl
noncomputable def cSC : FuncId → Con := fun f => match f with
  | 22 => pureCon (detPC hasC_D)
  | 18 => pureCon (detPC count_D)
  | 23 => pureCon (detPC spLives_D)
  | _ => fun _ _ _ => Bad 1001
theorem cSC_ok : ConOk Try.prog cSC := fun f A H K h => by
  unfold cSC at h
  split at h
  · exact ⟨⟨Try.f22, Try.func22, by kernel_rfl, by kernel_rfl⟩, pureCon_ok hasC_ok h⟩
  · exact ⟨⟨Try.f18, Try.func18, by kernel_rfl, by kernel_rfl⟩, pureCon_ok count_ok h⟩
  · exact ⟨⟨Try.f23, Try.func23, by kernel_rfl, by kernel_rfl⟩, pureCon_ok spLives_ok h⟩
  · cases h
set_option maxRecDepth 100000 in
set_option maxHeartbeats 4000000 in
theorem scount_vc (s : Set) (a : Int) (b : Int) (c : Int) (fit_s : Siz.fit s) (fit_a : Siz.fit a) (fit_b : Siz.fit b) (fit_c : Siz.fit c) (hB : Siz.bulk s + Siz.bulk a + Siz.bulk b + Siz.bulk c ≤ 1048576) : FnOk Try.prog 9 [.agg (Dat.enc fun _ => s), .i .i64 fun _ => a, .i .i64 fun _ => b, .i .i64 fun _ => c] [] (outA (.bc true) []) := by
  refine fn_ok envOk zl cSC_ok noDraws_ok (keep := [0, 1, 2, 3, 4, 8, 9, 10, 11, 12, 13, 14, 15, 16, 17, 18, 19, 20, 44, 80, 100]) Try.func9 rfl ?_
  have fin := @fin_b
  have finc := @fin_t
  have hp' : s.spans.length ≤ 9223372036854775807 := by
    have h1 := bulk_len Span.one_le s.spans
    simp only [Siz.bulk] at hB h1
    omega
  generalize outA (.bc true) [] = K at fin finc
  cbv
  repeat' first | (show Stp _; exfalso; first | omega | (exact h ‹_›) | (exact absurd ‹_› h)) | (refine Stp.mk ?_; cbv) | (refine Gen.mk fun r hr => ?_; (try simp only [Dat.ok, Dat.dec, Leaf.ok, Leaf.val, Span.eta, Set.eta, val_sl, val_nil] at hr); cbv) | exact trivial | rfl | refine Both.mk ?_ ?_ | (refine Imp.mk fun h => ?_; (try dsimp only at h); (try simp only [nc, Int.toNat_natCast, Bool.not_eq_true', Bool.not_eq_false', decide_eq_true_eq, decide_eq_false_iff_not, beq_iff_eq, beq_eq_false_iff_ne, bne_iff_ne, ne_eq, Bool.and_eq_true, Bool.or_eq_true, Bool.and_eq_false_iff, Bool.or_eq_false_iff, Int.not_le, Int.not_lt, Nat.not_le, Nat.not_lt] at h); (try simp only [nc] at h)) | refine Ob.mk ?_ ?_ | refine Chk.mk (by kernel_rfl) ?_ | refine Eq'.mk ?_ | (refine AllN.mk fun i hi => ?_; cbv) | (refine AllS.mk fun r hr => ?_; (try simp only [Dat.ok, Dat.dec, Leaf.ok, Leaf.val, Span.eta, Set.eta, val_sl] at hr); cbv)
  all_goals ((try dsimp only at *); (try simp only [nc, Int.toNat_natCast, Bool.not_eq_true', Bool.not_eq_false', decide_eq_true_eq, decide_eq_false_iff_not, beq_iff_eq, beq_eq_false_iff_ne, bne_iff_ne, ne_eq, Bool.and_eq_true, Bool.or_eq_true, Bool.and_eq_false_iff, Bool.or_eq_false_iff, Int.not_le, Int.not_lt, Nat.not_le, Nat.not_lt] at *); (try simp only [nc] at *))
  all_goals try simp only [Dat.ok, Dat.dec, Leaf.ok, Leaf.val, Span.eta, Set.eta, val_sl] at *
  all_goals first
    | exact finc
    | exact ⟨⟨trivial, rfl, fun i _ => Dat.hok _⟩, hp'⟩
    | (refine fin ?_
       have := c_err (show ¬ (countV s a b).snd = 0 by assumption)
       simp [this]; done)
    | skip
  all_goals obtain ⟨hR, a0, ab, ab2⟩ := c_ok (show (countV s a b).snd = 0 by assumption)
  all_goals obtain ⟨-, b0, bc, bc2⟩ := c_ok (show (countV s b c).snd = 0 by assumption)
  all_goals have e1 := count_of hR a0 ab ab2
  all_goals have e2 := count_of hR b0 bc bc2
  all_goals have e3 := count_of hR a0 (show a ≤ c by omega) bc2
  all_goals have u1 := upto_le hR a0 ab
  all_goals have u2 := upto_le hR b0 bc
  all_goals have hs1 := hR.s1
  all_goals have hs2 := hR.s2
  all_goals have f1 := upto_frame hR a0
  all_goals have f2 := upto_frame hR b0
  all_goals have hh := has_iff hR a0 (show a ≤ 1099511627776 by omega)
  all_goals try (
    have e4 := c_ok (show (countV s (a + s.size) (b + s.size)).snd = 0 by assumption)
    have e5 := count_of hR (show 0 ≤ a + s.size by omega) (show a + s.size ≤ b + s.size by omega) e4.2.2.2
    simp only [e5] at *)
  all_goals try (
    have e6 := c_ok (show (countV s a (a + 1)).snd = 0 by assumption)
    have e7 := count_of hR a0 (show a ≤ a + 1 by omega) e6.2.2.2
    simp only [e7] at *)
  all_goals simp only [e1, e2, e3, hh] at *
  all_goals first
    | (unfold InR; omega)
    | (exfalso; omega)
    | (exfalso; exact absurd trivial (by assumption))
    | (refine fin ?_; exact beq_self_eq_true (decide (_ = _)))
    | fail
section
open Go.ChangeShapes Go.WideShapes Go.ChangeAt Go.RowKit Go.Joins Go.Deep
set_option linter.unusedVariables false
theorem scount_own : ownKnob Try.prog.godebug = none := by kernel_rfl
theorem scount_laidOut : laidOutB Try.prog = true := by kernel_rfl
theorem scount_readOk {ts : Array TypeId} (h : ts.toList.all (fun t => Try.prog.readableRec t && decide (t < Try.prog.types.size)) = true) : ∀ t ∈ ts.toList, Try.prog.readableRec t = true ∧ t < Try.prog.types.size := fun t ht => by
  have := List.all_eq_true.1 h t ht
  simpa using this
mutual
theorem scount_bD {H : Type} : ∀ d : DataW H, Rows.uptoBulk d = bulkD d
  | .lit l => by cases l <;> simp [Rows.uptoBulk, bulkD]
  | .nil => by simp [Rows.uptoBulk, bulkD]
  | .ptr d => by simp [Rows.uptoBulk, bulkD, scount_bD d]
  | .slice a b => by simp [Rows.uptoBulk, bulkD, scount_bL a, scount_bL b]
  | .agg a => by simp [Rows.uptoBulk, bulkD, scount_bL a]
  | .iface _ d => by simp [Rows.uptoBulk, bulkD, scount_bD d]
  | .map e => by simp [Rows.uptoBulk, bulkD, scount_bE e]
  | .held _ => by simp [Rows.uptoBulk, bulkD]
theorem scount_bL {H : Type} : ∀ d : List (DataW H), Rows.uptoBulkAll d = bulkL d
  | [] => by simp [Rows.uptoBulkAll, bulkL]
  | d :: r => by simp [Rows.uptoBulkAll, bulkL, scount_bD d, scount_bL r]
theorem scount_bE {H : Type} : ∀ d : List (Lit × DataW H), Rows.uptoBulkEntries d = bulkE d
  | [] => by simp [Rows.uptoBulkEntries, bulkE]
  | d :: r => by simp [Rows.uptoBulkEntries, bulkE, scount_bX d, scount_bE r]
theorem scount_bX {H : Type} : ∀ d : Lit × DataW H, Rows.uptoBulkEntry d = bulkX d
  | (l, d) => by cases l <;> simp [Rows.uptoBulkEntry, bulkX, scount_bD d]
end
set_option maxRecDepth 100000 in
theorem scount_lifted (os : Os) (started : os.Started) (H : Type) (enc : TypeId × Value → H) (F : Stop.Interp) :
    ReturnsInHanded {} Try.checked os 9 .any ((Rows.OpenSpec.upto Rows.spanCountSpec).pre6 enc Try.prog Try.f9 Rows.spanCountUptoRow.domain false) (((Rows.OpenSpec.upto Rows.spanCountSpec).at F).post enc Try.prog Try.f9 false true false false) := by
  refine returnsInHanded_of_cond (C := Try.checked) (s := Rows.OpenSpec.upto Rows.spanCountSpec) (k := Rows.uptoSmall) rfl scount_own started (by kernel_rfl) Try.func9
    (OpenSpec.witness (enc := enc) (C := Try.checked) (s := Rows.OpenSpec.upto Rows.spanCountSpec) (k := Rows.uptoSmall) rfl false ⟨#[], #[.agg #[.int .i64 0, .slice none 0 0], .int .i64 0, .int .i64 0, .int .i64 0], []⟩ 8 (by kernel_rfl) (by kernel_rfl) (by kernel_rfl)
      (x := ([.agg [.lit (.int .i64 0), .nil], .lit (.int .i64 0), .lit (.int .i64 0), .lit (.int .i64 0)], [], [])) (by kernel_rfl) rfl (by kernel_rfl)) ?_
  intro W base args ds gs before hval0 hW _ hk _
  show Calls Try.prog 9 args W fun e W' => ∃ v, e = .returned v ∧ Rows.spanCountSpec.post enc Try.prog Try.f9 false true false false W args v W'
  have hval : ∀ (j : Nat) t v, Try.f9.params[j]? = some t → args[j]? = some v → Value.okWide Try.prog W .any base t v := hval0
  have hW' := hW
  have hlt := hW.lt
  obtain ⟨p, q, hA0, hV, rfl, hfz, hnd⟩ := hW
  have hA : DataW.TrodAll enc Try.prog W 0 (fun _ => true) true Try.f9.params.toList args.toList ds p := hA0
  have hA1 := hA
  rw [Try.params9] at hA hval
  obtain ⟨v0, vs0, d0, ds0, p0, q0, hargs, rfl, rfl, h0, r0⟩ := trodAll_cons hA
  obtain ⟨v1, vs1, d1, ds1, p1, q1, rfl, rfl, rfl, h1, r1⟩ := trodAll_cons r0
  obtain ⟨v2, vs2, d2, ds2, p2, q2, rfl, rfl, rfl, h2, r2⟩ := trodAll_cons r1
  obtain ⟨v3, vs3, d3, ds3, p3, q3, rfl, rfl, rfl, h3, r3⟩ := trodAll_cons r2
  obtain ⟨rfl, rfl, rfl⟩ := trodAll_nil r3
  obtain rfl : args = #[v0, v1, v2, v3] := by cases args; simp_all
  obtain ⟨rfl, rfl⟩ := trodVars_none hV
  obtain ⟨cs0, rfl, _⟩ := okWide_struct Try.underlying24 (hval 0 24 v0 rfl rfl)
  obtain ⟨y0, u0, b0, e0⟩ := arg_agg (α := Set) opn_Set h0
  obtain ⟨z1, rfl⟩ := okWide_int Try.underlying3 (hval 1 3 v1 rfl rfl)
  obtain ⟨y1, u1, b1, e1⟩ := arg_leaf (α := Int) (opn_int Try.underlying3) rfl h1
  obtain ⟨z2, rfl⟩ := okWide_int Try.underlying3 (hval 2 3 v2 rfl rfl)
  obtain ⟨y2, u2, b2, e2⟩ := arg_leaf (α := Int) (opn_int Try.underlying3) rfl h2
  obtain ⟨z3, rfl⟩ := okWide_int Try.underlying3 (hval 3 3 v3 rfl rfl)
  obtain ⟨y3, u3, b3, e3⟩ := arg_leaf (α := Int) (opn_int Try.underlying3) rfl h3
  have hB : Siz.bulk y0 + Siz.bulk y1 + Siz.bulk y2 + Siz.bulk y3 ≤ 1048576 := by
    have h := of_decide_eq_true hk
    rw [scount_bL] at h
    simp only [List.append_nil, bulkL] at h
    omega
  have hR := repL_cons (M := fun _ => False) (β := fun _ => none) (cp := fun _ => 0) (.c e0) (repL_cons (M := fun _ => False) (β := fun _ => none) (cp := fun _ => 0) (.c e1) (repL_cons (M := fun _ => False) (β := fun _ => none) (cp := fun _ => 0) (.c e2) (repL_cons (M := fun _ => False) (β := fun _ => none) (cp := fun _ => 0) (.c e3) (repL_nil))))
  refine (law_callsA (scount_vc y0 y1 y2 y3 u0 u1 u2 u3 hB) hR).mono fun e W' ⟨he, bel⟩ => ?_
  subst he
  exact ⟨_, rfl, _, _, _, [], _, [], hW', trodAll_mk1 (shut_bool Try.underlying4 _), trodAll_below scount_laidOut bel (scount_readOk (by kernel_rfl)) (fun x hx => hlt x (List.mem_append_left _ hx)) hA1, rfl, bel.frame _, fun h => by cases h⟩
theorem SpanCount_proved : Rows.SpanCountUptoSaid :=
  OpenClaim.holds_of_cond 9 Try.f9 rfl rfl rfl rfl rfl rfl rfl ⟨rfl, rfl, rfl, rfl, rfl⟩ rfl rfl rfl rfl rfl (by kernel_rfl) Try.func9 (by kernel_rfl)
    (of_decide_eq_true (by kernel_rfl)) (by unfold Func.isWrapper; first | (rw [if_pos (by decide +kernel)]; kernel_rfl) | (rw [if_neg (by decide +kernel)]; exact ⟨rfl, rfl⟩))
    (fun os started H enc _ F => scount_lifted os started H enc F)
end

end Go.Proofs.Ytmicojghbhhblaa
