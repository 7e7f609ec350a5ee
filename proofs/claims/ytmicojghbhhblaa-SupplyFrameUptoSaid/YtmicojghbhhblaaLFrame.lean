/- The program's functions, walked: LFrame. -/
import Derived.Test.YtmicojghbhhblaaLEach
set_option linter.all false
namespace Go.Proofs.Ytmicojghbhhblaa
open Go Go.Abs
theorem frame_law {s : Set} (h : Right s) {n : Int} (hn : 0 ≤ n) (hn2 : n + s.size ≤ 549755813888) :
    (boundV s (n + s.size) false).1 = (boundV s n false).1 + long s.spans ∧ (boundV s (n + s.size) true).1 = (boundV s n true).1 + long s.spans ∧ (boundV s (n + s.size) false).2 = 0 ∧ (boundV s (n + s.size) true).2 = 0 ∧
    0 ≤ (boundV s n false).1 ∧ (boundV s n false).1 ≤ n ∧ 0 ≤ (boundV s n true).1 ∧ (boundV s n true).1 ≤ n := by
  have hs1 := h.s1
  obtain ⟨a, a1, a2, ta, a3, a4, a5⟩ := least_spec h hn (by omega)
  obtain ⟨c, c1, c2, tc, c3, c4, c5⟩ := least_spec h (show 0 ≤ n + s.size by omega) (by omega)
  obtain ⟨x, x1, x2, tx, x3, x4, x5⟩ := most_spec h hn (by omega)
  obtain ⟨z, z1, z2, tz, z3, z4, z5⟩ := most_spec h (show 0 ≤ n + s.size by omega) (by omega)
  rw [a1, c1, x1, z1]
  dsimp only
  have e : ∀ t, 0 ≤ t → win s (n + s.size) t = win s n t + long s.spans := fun t ht => by
    unfold win; rw [show t + (n + s.size) = t + n + s.size by omega, upto_frame h (by omega)]; omega
  have g1 := win_bd h hn a3
  have g3 := win_bd h hn x3
  have f1 := a2 tc c3
  have f2 := c2 ta a3
  have f3 := x2 tz z3
  have f4 := z2 tx x3
  rw [e _ c3] at c5
  rw [e _ a3] at f2
  rw [e _ z3] at z5
  rw [e _ x3] at f4
  refine ⟨by omega, by omega, rfl, rfl, by omega, by omega, by omega, by omega⟩
set_option maxRecDepth 100000 in
set_option maxHeartbeats 4000000 in
theorem frame_vc (s : Set) (n : Int) (fit_s : Siz.fit s) (fit_n : Siz.fit n) (hB : Siz.bulk s + Siz.bulk n ≤ 1048576) : FnOk Try.prog 5 [.agg (Dat.enc fun _ => s), .i .i64 fun _ => n] [] (outA (.bc true) []) := by
  refine fn_ok envOk zl conEa_ok noDraws_ok (keep := [0, 1, 2, 4, 5, 6, 7, 8, 9, 10, 11, 12, 13, 14, 43]) Try.func5 rfl ?_
  have fin := @fin_b
  have finc := @fin_t
  have hp' : s.spans.length ≤ 9223372036854775807 := by
    have h1 := bulk_len Span.one_le s.spans
    simp only [Siz.bulk] at hB h1
    omega
  generalize outA (.bc true) [] = K at fin finc
  cbv
  repeat' first | (show Stp _; exfalso; first | omega | (exact h ‹_›) | (exact absurd ‹_› h)) | (refine Stp.mk ?_; cbv) | (refine Gen.mk fun r hr => ?_; (try simp only [Dat.ok, Dat.dec, Leaf.ok, Leaf.val, Span.eta, Set.eta, val_sl, val_nil] at hr); cbv) | exact trivial | rfl | refine Both.mk ?_ ?_ | (refine Imp.mk fun h => ?_; (try dsimp only at h); (try simp only [nc, Int.toNat_natCast, Bool.not_eq_true', Bool.not_eq_false', decide_eq_true_eq, decide_eq_false_iff_not, beq_iff_eq, beq_eq_false_iff_ne, bne_iff_ne, ne_eq, Bool.and_eq_true, Bool.or_eq_true, Bool.and_eq_false_iff, Bool.or_eq_false_iff, Int.not_le, Int.not_lt, Nat.not_le, Nat.not_lt] at h); (try simp only [nc] at h)) | refine Ob.mk ?_ ?_ | refine Eq'.mk ?_ | (refine AllN.mk fun i hi => ?_; cbv)
  all_goals ((try dsimp only at *); (try simp only [nc, Int.toNat_natCast, Bool.not_eq_true', Bool.not_eq_false', decide_eq_true_eq, decide_eq_false_iff_not, beq_iff_eq, beq_eq_false_iff_ne, bne_iff_ne, ne_eq, Bool.and_eq_true, Bool.or_eq_true, Bool.and_eq_false_iff, Bool.or_eq_false_iff, Int.not_le, Int.not_lt, Nat.not_le, Nat.not_lt] at *); (try simp only [nc] at *))
  all_goals try simp only [Dat.ok, Dat.dec, Leaf.ok, Leaf.val, Span.eta, Set.eta, val_sl] at *
  all_goals try simp only [leastP_S, mostP_S] at *
  all_goals first
    | exact finc
    | exact ⟨⟨trivial, rfl, fun i _ => Dat.hok _⟩, hp'⟩
    | skip
  all_goals obtain ⟨hR, hn0, hn1⟩ := bnd_ok (show (boundV s n false).2 = 0 by assumption)
  all_goals have hs1 := hR.s1
  all_goals have hs2 := hR.s2
  all_goals try have A := frame_law hR hn0 (by omega)
  all_goals have hl := right_long hR
  all_goals try simp only [count0 hR, upto0 hR, uptoS hR, Int.sub_zero] at *
  all_goals first
    | (unfold InR; omega)
    | omega
    | exact fin (decide_eq_true (by omega))
    | exact fin (beq_iff_eq.2 (by omega))
    | (exfalso; exact h trivial)
    | fail
section
open Go.ChangeShapes Go.WideShapes Go.ChangeAt Go.RowKit Go.Joins Go.Deep
set_option linter.unusedVariables false
theorem frame_own : ownKnob Try.prog.godebug = none := by kernel_rfl
theorem frame_laidOut : laidOutB Try.prog = true := by kernel_rfl
theorem frame_readOk {ts : Array TypeId} (h : ts.toList.all (fun t => Try.prog.readableRec t && decide (t < Try.prog.types.size)) = true) : ∀ t ∈ ts.toList, Try.prog.readableRec t = true ∧ t < Try.prog.types.size := fun t ht => by
  have := List.all_eq_true.1 h t ht
  simpa using this
mutual
theorem frame_bD {H : Type} : ∀ d : DataW H, Rows.uptoBulk d = bulkD d
  | .lit l => by cases l <;> simp [Rows.uptoBulk, bulkD]
  | .nil => by simp [Rows.uptoBulk, bulkD]
  | .ptr d => by simp [Rows.uptoBulk, bulkD, frame_bD d]
  | .slice a b => by simp [Rows.uptoBulk, bulkD, frame_bL a, frame_bL b]
  | .agg a => by simp [Rows.uptoBulk, bulkD, frame_bL a]
  | .iface _ d => by simp [Rows.uptoBulk, bulkD, frame_bD d]
  | .map e => by simp [Rows.uptoBulk, bulkD, frame_bE e]
  | .held _ => by simp [Rows.uptoBulk, bulkD]
theorem frame_bL {H : Type} : ∀ d : List (DataW H), Rows.uptoBulkAll d = bulkL d
  | [] => by simp [Rows.uptoBulkAll, bulkL]
  | d :: r => by simp [Rows.uptoBulkAll, bulkL, frame_bD d, frame_bL r]
theorem frame_bE {H : Type} : ∀ d : List (Lit × DataW H), Rows.uptoBulkEntries d = bulkE d
  | [] => by simp [Rows.uptoBulkEntries, bulkE]
  | d :: r => by simp [Rows.uptoBulkEntries, bulkE, frame_bX d, frame_bE r]
theorem frame_bX {H : Type} : ∀ d : Lit × DataW H, Rows.uptoBulkEntry d = bulkX d
  | (l, d) => by cases l <;> simp [Rows.uptoBulkEntry, bulkX, frame_bD d]
end
set_option maxRecDepth 100000 in
theorem frame_lifted (os : Os) (started : os.Started) (H : Type) (enc : TypeId × Value → H) (F : Stop.Interp) :
    ReturnsInHanded {} Try.checked os 5 .any ((Rows.OpenSpec.upto Rows.supplyFrameSpec).pre6 enc Try.prog Try.f5 Rows.supplyFrameUptoRow.domain false) (((Rows.OpenSpec.upto Rows.supplyFrameSpec).at F).post enc Try.prog Try.f5 false true false false) := by
  refine returnsInHanded_of_cond (C := Try.checked) (s := Rows.OpenSpec.upto Rows.supplyFrameSpec) (k := Rows.uptoSmall) rfl frame_own started (by kernel_rfl) Try.func5
    (OpenSpec.witness (enc := enc) (C := Try.checked) (s := Rows.OpenSpec.upto Rows.supplyFrameSpec) (k := Rows.uptoSmall) rfl false ⟨#[], #[.agg #[.int .i64 0, .slice none 0 0], .int .i64 0], []⟩ 8 (by kernel_rfl) (by kernel_rfl) (by kernel_rfl)
      (x := ([.agg [.lit (.int .i64 0), .nil], .lit (.int .i64 0)], [], [])) (by kernel_rfl) rfl (by kernel_rfl)) ?_
  intro W base args ds gs before hval0 hW _ hk _
  show Calls Try.prog 5 args W fun e W' => ∃ v, e = .returned v ∧ Rows.supplyFrameSpec.post enc Try.prog Try.f5 false true false false W args v W'
  have hval : ∀ (j : Nat) t v, Try.f5.params[j]? = some t → args[j]? = some v → Value.okWide Try.prog W .any base t v := hval0
  have hW' := hW
  have hlt := hW.lt
  obtain ⟨p, q, hA0, hV, rfl, hfz, hnd⟩ := hW
  have hA : DataW.TrodAll enc Try.prog W 0 (fun _ => true) true Try.f5.params.toList args.toList ds p := hA0
  have hA1 := hA
  rw [Try.params5] at hA hval
  obtain ⟨v0, vs0, d0, ds0, p0, q0, hargs, rfl, rfl, h0, r0⟩ := trodAll_cons hA
  obtain ⟨v1, vs1, d1, ds1, p1, q1, rfl, rfl, rfl, h1, r1⟩ := trodAll_cons r0
  obtain ⟨rfl, rfl, rfl⟩ := trodAll_nil r1
  obtain rfl : args = #[v0, v1] := by cases args; simp_all
  obtain ⟨rfl, rfl⟩ := trodVars_none hV
  obtain ⟨cs0, rfl, _⟩ := okWide_struct Try.underlying24 (hval 0 24 v0 rfl rfl)
  obtain ⟨y0, u0, b0, e0⟩ := arg_agg (α := Set) opn_Set h0
  obtain ⟨z1, rfl⟩ := okWide_int Try.underlying3 (hval 1 3 v1 rfl rfl)
  obtain ⟨y1, u1, b1, e1⟩ := arg_leaf (α := Int) (opn_int Try.underlying3) rfl h1
  have hB : Siz.bulk y0 + Siz.bulk y1 ≤ 1048576 := by
    have h := of_decide_eq_true hk
    rw [frame_bL] at h
    simp only [List.append_nil, bulkL] at h
    omega
  have hR := repL_cons (M := fun _ => False) (β := fun _ => none) (cp := fun _ => 0) (.c e0) (repL_cons (M := fun _ => False) (β := fun _ => none) (cp := fun _ => 0) (.c e1) (repL_nil))
  refine (law_callsA (frame_vc y0 y1 u0 u1 hB) hR).mono fun e W' ⟨he, bel⟩ => ?_
  subst he
  exact ⟨_, rfl, _, _, _, [], _, [], hW', trodAll_mk1 (shut_bool Try.underlying4 _), trodAll_below frame_laidOut bel (frame_readOk (by kernel_rfl)) (fun x hx => hlt x (List.mem_append_left _ hx)) hA1, rfl, bel.frame _, fun h => by cases h⟩
theorem SupplyFrame_proved : Rows.SupplyFrameUptoSaid :=
  OpenClaim.holds_of_cond 5 Try.f5 rfl rfl rfl rfl rfl rfl rfl ⟨rfl, rfl, rfl, rfl, rfl⟩ rfl rfl rfl rfl rfl (by kernel_rfl) Try.func5 (by kernel_rfl)
    (of_decide_eq_true (by kernel_rfl)) (by unfold Func.isWrapper; first | (rw [if_pos (by decide +kernel)]; kernel_rfl) | (rw [if_neg (by decide +kernel)]; exact ⟨rfl, rfl⟩))
    (fun os started H enc _ F => frame_lifted os started H enc F)
end

end Go.Proofs.Ytmicojghbhhblaa
