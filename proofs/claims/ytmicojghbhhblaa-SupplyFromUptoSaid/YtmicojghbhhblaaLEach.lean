/- The program's functions, walked: LEach. -/
import Derived.Test.YtmicojghbhhblaaWait
set_option linter.all false
namespace Go.Proofs.Ytmicojghbhhblaa
open Go Go.Abs
theorem bnd_ok {s : Set} {n : Int} {m : Bool} (h : (boundV s n m).2 = 0) : Right s ∧ 0 ≤ n ∧ n ≤ 549755813888 := by
  unfold boundV at h
  split at h
  · rename_i hc
    split at h
    · cases h
    · exact ⟨check_iff.1 hc, by omega, by omega⟩
  · rename_i hc; exact absurd h hc
theorem bnd_err {s : Set} {n : Int} {m : Bool} (h : ¬ (boundV s n m).2 = 0) : (boundV s n m).1 = 0 := by
  unfold boundV at *
  split
  · rename_i hc
    rw [if_pos hc] at h
    split
    · rfl
    · rename_i h1; rw [if_neg h1] at h; exact absurd rfl h
  · rfl
noncomputable def conEa : FuncId → Con := fun f => match f with
  | 15 => pureCon (detPC leastP_D)
  | 16 => pureCon (detPC mostP_D)
  | 18 => pureCon (detPC count_D)
  | 17 => pureCon (detPC lives_D)
  | _ => fun _ _ _ => Bad 1001
theorem conEa_ok : ConOk Try.prog conEa := fun f A H K h => by
  unfold conEa at h
  split at h
  · exact ⟨⟨Try.f15, Try.func15, by kernel_rfl, by kernel_rfl⟩, pureCon_ok leastP_ok h⟩
  · exact ⟨⟨Try.f16, Try.func16, by kernel_rfl, by kernel_rfl⟩, pureCon_ok mostP_ok h⟩
  · exact ⟨⟨Try.f18, Try.func18, by kernel_rfl, by kernel_rfl⟩, pureCon_ok count_ok h⟩
  · exact ⟨⟨Try.f17, Try.func17, by kernel_rfl, by kernel_rfl⟩, pureCon_ok lives_ok h⟩
  · cases h
set_option maxRecDepth 100000 in
set_option maxHeartbeats 4000000 in
theorem each_vc (s : Set) (n : Int) (t : Int) (fit_s : Siz.fit s) (fit_n : Siz.fit n) (fit_t : Siz.fit t) (hB : Siz.bulk s + Siz.bulk n + Siz.bulk t ≤ 1048576) : FnOk Try.prog 3 [.agg (Dat.enc fun _ => s), .i .i64 fun _ => n, .i .i64 fun _ => t] [] (outA (.bc true) []) := by
  refine fn_ok envOk zl conEa_ok noDraws_ok (keep := [0, 1, 2, 3, 6, 7, 8, 9, 10, 11, 12, 42]) Try.func3 rfl ?_
  have fin := @fin_b
  have finc := @fin_t
  have hp' : s.spans.length ≤ 9223372036854775807 := by
    have h1 := bulk_len Span.one_le s.spans
    simp only [Siz.bulk] at hB h1
    omega
  generalize outA (.bc true) [] = K at fin finc
  cbv
  repeat' first | (show Stp _; exfalso; first | omega | (exact h ‹_›) | (exact absurd ‹_› h)) | (refine Stp.mk ?_; cbv) | (refine Gen.mk fun r hr => ?_; (try simp only [Dat.ok, Dat.dec, Leaf.ok, Leaf.val, Span.eta, Set.eta, val_sl, val_nil] at hr); cbv) | exact trivial | rfl | refine Both.mk ?_ ?_ | (refine Imp.mk fun h => ?_; (try dsimp only at h); (try simp only [nc, Int.toNat_natCast, Bool.not_eq_true', Bool.not_eq_false', decide_eq_true_eq, decide_eq_false_iff_not, beq_iff_eq, beq_eq_false_iff_ne, bne_iff_ne, ne_eq, Bool.and_eq_true, Bool.or_eq_true, Bool.and_eq_false_iff, Bool.or_eq_false_iff, Int.not_le, Int.not_lt, Nat.not_le, Nat.not_lt] at h); (try simp only [nc] at h)) | refine Ob.mk ?_ ?_ | refine Eq'.mk ?_ | (refine AllN.mk fun i hi => ?_; cbv)
  all_goals ((try dsimp only at *); (try simp only [nc, Int.toNat_natCast, Bool.not_eq_true', Bool.not_eq_false', decide_eq_true_eq, decide_eq_false_iff_not, beq_iff_eq, beq_eq_false_iff_ne, bne_iff_ne, ne_eq, Bool.and_eq_true, Bool.or_eq_true, Bool.and_eq_false_iff, Bool.or_eq_false_iff, Int.not_le, Int.not_lt, Nat.not_le, Nat.not_lt] at *); (try simp only [nc] at *))
  all_goals try simp only [Dat.ok, Dat.dec, Leaf.ok, Leaf.val, Span.eta, Set.eta, val_sl] at *
  all_goals try simp only [leastP_S, mostP_S] at *
  all_goals first
    | exact finc
    | exact ⟨⟨trivial, rfl, fun i _ => Dat.hok _⟩, hp'⟩
    | (refine fin ?_
       have := bnd_err (show ¬ (boundV s n false).2 = 0 by assumption)
       simp [this]; done)
    | skip
  all_goals obtain ⟨hR, hn0, hn1⟩ := bnd_ok (show (boundV s n false).2 = 0 by assumption)
  all_goals obtain ⟨L, hL, hL2, tL, hL3, hL4, hL5⟩ := least_spec hR hn0 hn1
  all_goals obtain ⟨M, hM, hM2, tM, hM3, hM4, hM5⟩ := most_spec hR hn0 hn1
  all_goals try have hC := count_of hR (show 0 ≤ t by omega) (show t ≤ t + n by omega) (by omega)
  all_goals have q1 := hL2 t (by omega)
  all_goals have q2 := hM2 t (by omega)
  all_goals have q3 := win_bd hR hn0 hL3
  all_goals have q4 := win_bd hR hn0 hM3
  all_goals simp only [hL, hM] at *
  all_goals try simp only [hC] at *
  all_goals unfold win at *
  all_goals first
    | (unfold InR; omega)
    | omega
    | (refine fin ?_; simp; omega)
    | (exfalso; exact h trivial)
    | fail
section
open Go.ChangeShapes Go.WideShapes Go.ChangeAt Go.RowKit Go.Joins Go.Deep
set_option linter.unusedVariables false
theorem each_own : ownKnob Try.prog.godebug = none := by kernel_rfl
theorem each_laidOut : laidOutB Try.prog = true := by kernel_rfl
theorem each_readOk {ts : Array TypeId} (h : ts.toList.all (fun t => Try.prog.readableRec t && decide (t < Try.prog.types.size)) = true) : ∀ t ∈ ts.toList, Try.prog.readableRec t = true ∧ t < Try.prog.types.size := fun t ht => by
  have := List.all_eq_true.1 h t ht
  simpa using this
mutual
theorem each_bD {H : Type} : ∀ d : DataW H, Rows.uptoBulk d = bulkD d
  | .lit l => by cases l <;> simp [Rows.uptoBulk, bulkD]
  | .nil => by simp [Rows.uptoBulk, bulkD]
  | .ptr d => by simp [Rows.uptoBulk, bulkD, each_bD d]
  | .slice a b => by simp [Rows.uptoBulk, bulkD, each_bL a, each_bL b]
  | .agg a => by simp [Rows.uptoBulk, bulkD, each_bL a]
  | .iface _ d => by simp [Rows.uptoBulk, bulkD, each_bD d]
  | .map e => by simp [Rows.uptoBulk, bulkD, each_bE e]
  | .held _ => by simp [Rows.uptoBulk, bulkD]
theorem each_bL {H : Type} : ∀ d : List (DataW H), Rows.uptoBulkAll d = bulkL d
  | [] => by simp [Rows.uptoBulkAll, bulkL]
  | d :: r => by simp [Rows.uptoBulkAll, bulkL, each_bD d, each_bL r]
theorem each_bE {H : Type} : ∀ d : List (Lit × DataW H), Rows.uptoBulkEntries d = bulkE d
  | [] => by simp [Rows.uptoBulkEntries, bulkE]
  | d :: r => by simp [Rows.uptoBulkEntries, bulkE, each_bX d, each_bE r]
theorem each_bX {H : Type} : ∀ d : Lit × DataW H, Rows.uptoBulkEntry d = bulkX d
  | (l, d) => by cases l <;> simp [Rows.uptoBulkEntry, bulkX, each_bD d]
end
set_option maxRecDepth 100000 in
theorem each_lifted (os : Os) (started : os.Started) (H : Type) (enc : TypeId × Value → H) (F : Stop.Interp) :
    ReturnsInHanded {} Try.checked os 3 .any ((Rows.OpenSpec.upto Rows.supplyEachSpec).pre6 enc Try.prog Try.f3 Rows.supplyEachUptoRow.domain false) (((Rows.OpenSpec.upto Rows.supplyEachSpec).at F).post enc Try.prog Try.f3 false true false false) := by
  refine returnsInHanded_of_cond (C := Try.checked) (s := Rows.OpenSpec.upto Rows.supplyEachSpec) (k := Rows.uptoSmall) rfl each_own started (by kernel_rfl) Try.func3
    (OpenSpec.witness (enc := enc) (C := Try.checked) (s := Rows.OpenSpec.upto Rows.supplyEachSpec) (k := Rows.uptoSmall) rfl false ⟨#[], #[.agg #[.int .i64 0, .slice none 0 0], .int .i64 0, .int .i64 0], []⟩ 8 (by kernel_rfl) (by kernel_rfl) (by kernel_rfl)
      (x := ([.agg [.lit (.int .i64 0), .nil], .lit (.int .i64 0), .lit (.int .i64 0)], [], [])) (by kernel_rfl) rfl (by kernel_rfl)) ?_
  intro W base args ds gs before hval0 hW _ hk _
  show Calls Try.prog 3 args W fun e W' => ∃ v, e = .returned v ∧ Rows.supplyEachSpec.post enc Try.prog Try.f3 false true false false W args v W'
  have hval : ∀ (j : Nat) t v, Try.f3.params[j]? = some t → args[j]? = some v → Value.okWide Try.prog W .any base t v := hval0
  have hW' := hW
  have hlt := hW.lt
  obtain ⟨p, q, hA0, hV, rfl, hfz, hnd⟩ := hW
  have hA : DataW.TrodAll enc Try.prog W 0 (fun _ => true) true Try.f3.params.toList args.toList ds p := hA0
  have hA1 := hA
  rw [Try.params3] at hA hval
  obtain ⟨v0, vs0, d0, ds0, p0, q0, hargs, rfl, rfl, h0, r0⟩ := trodAll_cons hA
  obtain ⟨v1, vs1, d1, ds1, p1, q1, rfl, rfl, rfl, h1, r1⟩ := trodAll_cons r0
  obtain ⟨v2, vs2, d2, ds2, p2, q2, rfl, rfl, rfl, h2, r2⟩ := trodAll_cons r1
  obtain ⟨rfl, rfl, rfl⟩ := trodAll_nil r2
  obtain rfl : args = #[v0, v1, v2] := by cases args; simp_all
  obtain ⟨rfl, rfl⟩ := trodVars_none hV
  obtain ⟨cs0, rfl, _⟩ := okWide_struct Try.underlying24 (hval 0 24 v0 rfl rfl)
  obtain ⟨y0, u0, b0, e0⟩ := arg_agg (α := Set) opn_Set h0
  obtain ⟨z1, rfl⟩ := okWide_int Try.underlying3 (hval 1 3 v1 rfl rfl)
  obtain ⟨y1, u1, b1, e1⟩ := arg_leaf (α := Int) (opn_int Try.underlying3) rfl h1
  obtain ⟨z2, rfl⟩ := okWide_int Try.underlying3 (hval 2 3 v2 rfl rfl)
  obtain ⟨y2, u2, b2, e2⟩ := arg_leaf (α := Int) (opn_int Try.underlying3) rfl h2
  have hB : Siz.bulk y0 + Siz.bulk y1 + Siz.bulk y2 ≤ 1048576 := by
    have h := of_decide_eq_true hk
    rw [each_bL] at h
    simp only [List.append_nil, bulkL] at h
    omega
  have hR := repL_cons (M := fun _ => False) (β := fun _ => none) (cp := fun _ => 0) (.c e0) (repL_cons (M := fun _ => False) (β := fun _ => none) (cp := fun _ => 0) (.c e1) (repL_cons (M := fun _ => False) (β := fun _ => none) (cp := fun _ => 0) (.c e2) (repL_nil)))
  refine (law_callsA (each_vc y0 y1 y2 u0 u1 u2 hB) hR).mono fun e W' ⟨he, bel⟩ => ?_
  subst he
  exact ⟨_, rfl, _, _, _, [], _, [], hW', trodAll_mk1 (shut_bool Try.underlying4 _), trodAll_below each_laidOut bel (each_readOk (by kernel_rfl)) (fun x hx => hlt x (List.mem_append_left _ hx)) hA1, rfl, bel.frame _, fun h => by cases h⟩
theorem SupplyEach_proved : Rows.SupplyEachUptoSaid :=
  OpenClaim.holds_of_cond 3 Try.f3 rfl rfl rfl rfl rfl rfl rfl ⟨rfl, rfl, rfl, rfl, rfl⟩ rfl rfl rfl rfl rfl (by kernel_rfl) Try.func3 (by kernel_rfl)
    (of_decide_eq_true (by kernel_rfl)) (by unfold Func.isWrapper; first | (rw [if_pos (by decide +kernel)]; kernel_rfl) | (rw [if_neg (by decide +kernel)]; exact ⟨rfl, rfl⟩))
    (fun os started H enc _ F => each_lifted os started H enc F)
end

end Go.Proofs.Ytmicojghbhhblaa
