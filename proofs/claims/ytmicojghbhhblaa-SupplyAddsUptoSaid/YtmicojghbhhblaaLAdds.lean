/- The program's functions, walked: LAdds. -/
import Derived.Test.YtmicojghbhhblaaLEach
set_option linter.all false
namespace Go.Proofs.Ytmicojghbhhblaa
open Go Go.Abs
theorem win_add {s : Set} {n m t : Int} : win s (n + m) t = win s n t + win s m (t + n) := by
  unfold win; rw [show t + (n + m) = t + n + m by omega]; omega
theorem adds_law {s : Set} (h : Right s) {n m : Int} (hn : 0 ≤ n) (hm : 0 ≤ m) (hn2 : n ≤ 274877906944) (hm2 : m ≤ 274877906944) :
    (boundV s n false).1 + (boundV s m false).1 ≤ (boundV s (n + m) false).1 ∧ (boundV s (n + m) true).1 ≤ (boundV s n true).1 + (boundV s m true).1 ∧
    (boundV s n false).1 ≤ (boundV s (n + 1) false).1 ∧ (boundV s (n + 1) false).1 ≤ (boundV s n false).1 + 1 ∧ (boundV s (n + m) true).2 = 0 ∧
    0 ≤ (boundV s n false).1 ∧ (boundV s n false).1 ≤ n ∧ 0 ≤ (boundV s m false).1 ∧ (boundV s m false).1 ≤ m ∧ 0 ≤ (boundV s n true).1 ∧ (boundV s n true).1 ≤ n ∧ 0 ≤ (boundV s m true).1 ∧ (boundV s m true).1 ≤ m := by
  obtain ⟨a, a1, a2, ta, a3, a4, a5⟩ := least_spec h hn (by omega)
  obtain ⟨b, b1, b2, tb, b3, b4, b5⟩ := least_spec h hm (by omega)
  obtain ⟨c, c1, c2, tc, c3, c4, c5⟩ := least_spec h (show 0 ≤ n + m by omega) (by omega)
  obtain ⟨d, d1, d2, td, d3, d4, d5⟩ := least_spec h (show 0 ≤ n + 1 by omega) (by omega)
  obtain ⟨x, x1, x2, tx, x3, x4, x5⟩ := most_spec h hn (by omega)
  obtain ⟨y, y1, y2, ty, y3, y4, y5⟩ := most_spec h hm (by omega)
  obtain ⟨z, z1, z2, tz, z3, z4, z5⟩ := most_spec h (show 0 ≤ n + m by omega) (by omega)
  rw [a1, b1, c1, d1, x1, y1, z1]
  dsimp only
  have e1 := win_add (s := s) (n := n) (m := m) (t := tc)
  have e2 := win_add (s := s) (n := n) (m := m) (t := tz)
  have e3 := win_add (s := s) (n := n) (m := 1) (t := td)
  have e4 := win_add (s := s) (n := n) (m := 1) (t := ta)
  have f1 := a2 tc c3
  have f2 := b2 (tc + n) (by omega)
  have f3 := x2 tz z3
  have f4 := y2 (tz + n) (by omega)
  have f5 := a2 td d3
  have f6 := win_bd h (n := 1) (t := td + n) (by omega) (by omega)
  have f7 := d2 ta a3
  have f8 := win_bd h (n := 1) (t := ta + n) (by omega) (by omega)
  have g1 := win_bd h hn a3
  have g2 := win_bd h hm b3
  have g3 := win_bd h hn x3
  have g4 := win_bd h hm y3
  refine ⟨by omega, by omega, by omega, by omega, rfl, by omega, by omega, by omega, by omega, by omega, by omega, by omega, by omega⟩
set_option maxRecDepth 100000 in
set_option maxHeartbeats 4000000 in
theorem adds_vc (s : Set) (n : Int) (m : Int) (fit_s : Siz.fit s) (fit_n : Siz.fit n) (fit_m : Siz.fit m) (hB : Siz.bulk s + Siz.bulk n + Siz.bulk m ≤ 1048576) : FnOk Try.prog 4 [.agg (Dat.enc fun _ => s), .i .i64 fun _ => n, .i .i64 fun _ => m] [] (outA (.bc true) []) := by
  refine fn_ok envOk zl conEa_ok noDraws_ok (keep := [0, 1, 2, 3, 6, 7, 8, 9, 11, 13, 15, 17, 19, 20, 34, 88]) Try.func4 rfl ?_
  have fin := @fin_b
  have finc := @fin_t
  have hp' : s.spans.length ≤ 9223372036854775807 := by
    have h1 := bulk_len Span.one_le s.spans
    simp only [Siz.bulk] at hB h1
    omega
  generalize outA (.bc true) [] = K at fin finc
  cbv
  repeat' first | (show Stp _; exfalso; first | omega | (exact h ‹_›) | (exact absurd ‹_› h)) | (refine Stp.mk ?_; cbv) | (refine Gen.mk fun r hr => ?_; (try simp only [Dat.ok, Dat.dec, Leaf.ok, Leaf.val, Span.eta, Set.eta, val_sl, val_nil] at hr); cbv) | exact trivial | rfl | refine Both.mk ?_ ?_ | (refine Imp.mk fun h => ?_; (try dsimp only at h); (try simp only [nc, Int.toNat_natCast, Bool.not_eq_true', Bool.not_eq_false', decide_eq_true_eq, decide_eq_false_iff_not, beq_iff_eq, beq_eq_false_iff_ne, bne_iff_ne, ne_eq, Bool.and_eq_true, Bool.or_eq_true, Bool.and_eq_false_iff, Bool.or_eq_false_iff, Int.not_le, Int.not_lt, Nat.not_le, Nat.not_lt] at h); (try simp only [nc] at h)) | refine Ob.mk ?_ ?_ | refine Eq'.mk ?_ | (refine AllN.mk fun i hi => ?_; cbv)
  all_goals ((try dsimp only at *); (try simp only [nc, Int.toNat_natCast, Bool.not_eq_true', Bool.not_eq_false', decide_eq_true_eq, decide_eq_false_iff_not, beq_iff_eq, beq_eq_false_iff_ne, bne_iff_ne, ne_eq, Bool.and_eq_true, Bool.or_eq_true, Bool.and_eq_false_iff, Bool.or_eq_false_iff, Int.not_le, Int.not_lt, Nat.not_le, Nat.not_lt] at *); (try simp only [nc] at *))
  all_goals try simp only [Dat.ok, Dat.dec, Leaf.ok, Leaf.val, Span.eta, Set.eta, val_sl] at *
  all_goals try simp only [leastP_S, mostP_S] at *
  all_goals first
    | exact finc
    | exact ⟨⟨trivial, rfl, fun i _ => Dat.hok _⟩, hp'⟩
    | (unfold InR; omega)
    | skip
  all_goals obtain ⟨hR, -, -⟩ := bnd_ok (show (boundV s n false).2 = 0 by assumption)
  all_goals have A := adds_law hR (show 0 ≤ n by omega) (show 0 ≤ m by omega) (by omega) (by omega)
  all_goals first
    | (unfold InR; omega)
    | omega
    | exact fin (decide_eq_true (by omega))
    | exact fin (beq_iff_eq.2 (by omega))
    | fail
section
open Go.ChangeShapes Go.WideShapes Go.ChangeAt Go.RowKit Go.Joins Go.Deep
set_option linter.unusedVariables false
theorem adds_own : ownKnob Try.prog.godebug = none := by kernel_rfl
theorem adds_laidOut : laidOutB Try.prog = true := by kernel_rfl
theorem adds_readOk {ts : Array TypeId} (h : ts.toList.all (fun t => Try.prog.readableRec t && decide (t < Try.prog.types.size)) = true) : ∀ t ∈ ts.toList, Try.prog.readableRec t = true ∧ t < Try.prog.types.size := fun t ht => by
  have := List.all_eq_true.1 h t ht
  simpa using this
mutual
theorem adds_bD {H : Type} : ∀ d : DataW H, Rows.uptoBulk d = bulkD d
  | .lit l => by cases l <;> simp [Rows.uptoBulk, bulkD]
  | .nil => by simp [Rows.uptoBulk, bulkD]
  | .ptr d => by simp [Rows.uptoBulk, bulkD, adds_bD d]
  | .slice a b => by simp [Rows.uptoBulk, bulkD, adds_bL a, adds_bL b]
  | .agg a => by simp [Rows.uptoBulk, bulkD, adds_bL a]
  | .iface _ d => by simp [Rows.uptoBulk, bulkD, adds_bD d]
  | .map e => by simp [Rows.uptoBulk, bulkD, adds_bE e]
  | .held _ => by simp [Rows.uptoBulk, bulkD]
theorem adds_bL {H : Type} : ∀ d : List (DataW H), Rows.uptoBulkAll d = bulkL d
  | [] => by simp [Rows.uptoBulkAll, bulkL]
  | d :: r => by simp [Rows.uptoBulkAll, bulkL, adds_bD d, adds_bL r]
theorem adds_bE {H : Type} : ∀ d : List (Lit × DataW H), Rows.uptoBulkEntries d = bulkE d
  | [] => by simp [Rows.uptoBulkEntries, bulkE]
  | d :: r => by simp [Rows.uptoBulkEntries, bulkE, adds_bX d, adds_bE r]
theorem adds_bX {H : Type} : ∀ d : Lit × DataW H, Rows.uptoBulkEntry d = bulkX d
  | (l, d) => by cases l <;> simp [Rows.uptoBulkEntry, bulkX, adds_bD d]
end
set_option maxRecDepth 100000 in
theorem adds_lifted (os : Os) (started : os.Started) (H : Type) (enc : TypeId × Value → H) (F : Stop.Interp) :
    ReturnsInHanded {} Try.checked os 4 .any ((Rows.OpenSpec.upto Rows.supplyAddsSpec).pre6 enc Try.prog Try.f4 Rows.supplyAddsUptoRow.domain false) (((Rows.OpenSpec.upto Rows.supplyAddsSpec).at F).post enc Try.prog Try.f4 false true false false) := by
  refine returnsInHanded_of_cond (C := Try.checked) (s := Rows.OpenSpec.upto Rows.supplyAddsSpec) (k := Rows.uptoSmall) rfl adds_own started (by kernel_rfl) Try.func4
    (OpenSpec.witness (enc := enc) (C := Try.checked) (s := Rows.OpenSpec.upto Rows.supplyAddsSpec) (k := Rows.uptoSmall) rfl false ⟨#[], #[.agg #[.int .i64 0, .slice none 0 0], .int .i64 0, .int .i64 0], []⟩ 8 (by kernel_rfl) (by kernel_rfl) (by kernel_rfl)
      (x := ([.agg [.lit (.int .i64 0), .nil], .lit (.int .i64 0), .lit (.int .i64 0)], [], [])) (by kernel_rfl) rfl (by kernel_rfl)) ?_
  intro W base args ds gs before hval0 hW _ hk _
  show Calls Try.prog 4 args W fun e W' => ∃ v, e = .returned v ∧ Rows.supplyAddsSpec.post enc Try.prog Try.f4 false true false false W args v W'
  have hval : ∀ (j : Nat) t v, Try.f4.params[j]? = some t → args[j]? = some v → Value.okWide Try.prog W .any base t v := hval0
  have hW' := hW
  have hlt := hW.lt
  obtain ⟨p, q, hA0, hV, rfl, hfz, hnd⟩ := hW
  have hA : DataW.TrodAll enc Try.prog W 0 (fun _ => true) true Try.f4.params.toList args.toList ds p := hA0
  have hA1 := hA
  rw [Try.params4] at hA hval
  obtain ⟨v0, vs0, d0, ds0, p0, q0, hargs, rfl, rfl, h0, r0⟩ := trodAll_cons hA
  obtain ⟨v1, vs1, d1, ds1, p1, q1, rfl, rfl, rfl, h1, r1⟩ := trodAll_cons r0
  obtain ⟨v2, vs2, d2, ds2, p2, q2, rfl, rfl, rfl, h2, r2⟩ := trodAll_cons r1
  obtain ⟨rfl, rfl, rfl⟩ := trodAll_nil r2
  obtain rfl : args = #[v0, v1, v2] := by cases args; simp_all
  obtain ⟨rfl, rfl⟩ := trodVars_none hV
  obtain ⟨cs0, rfl, _⟩ := okWide_struct Try.underlying24 (hval 0 24 v0 rfl rfl)
  obtain ⟨y0, u0, b0, e0⟩ := arg_agg (α := Set) opn_Set h0
  obtain ⟨z1, rfl⟩ := okWide_int Try.underlying3 (hval 1 3 v1 rfl rfl)
  obtain ⟨y1, u1, b1, e1⟩ := arg_leaf (α := Int) (opn_int Try.underlying3) rfl h1
  obtain ⟨z2, rfl⟩ := okWide_int Try.underlying3 (hval 2 3 v2 rfl rfl)
  obtain ⟨y2, u2, b2, e2⟩ := arg_leaf (α := Int) (opn_int Try.underlying3) rfl h2
  have hB : Siz.bulk y0 + Siz.bulk y1 + Siz.bulk y2 ≤ 1048576 := by
    have h := of_decide_eq_true hk
    rw [adds_bL] at h
    simp only [List.append_nil, bulkL] at h
    omega
  have hR := repL_cons (M := fun _ => False) (β := fun _ => none) (cp := fun _ => 0) (.c e0) (repL_cons (M := fun _ => False) (β := fun _ => none) (cp := fun _ => 0) (.c e1) (repL_cons (M := fun _ => False) (β := fun _ => none) (cp := fun _ => 0) (.c e2) (repL_nil)))
  refine (law_callsA (adds_vc y0 y1 y2 u0 u1 u2 hB) hR).mono fun e W' ⟨he, bel⟩ => ?_
  subst he
  exact ⟨_, rfl, _, _, _, [], _, [], hW', trodAll_mk1 (shut_bool Try.underlying4 _), trodAll_below adds_laidOut bel (adds_readOk (by kernel_rfl)) (fun x hx => hlt x (List.mem_append_left _ hx)) hA1, rfl, bel.frame _, fun h => by cases h⟩
theorem SupplyAdds_proved : Rows.SupplyAddsUptoSaid :=
  OpenClaim.holds_of_cond 4 Try.f4 rfl rfl rfl rfl rfl rfl rfl ⟨rfl, rfl, rfl, rfl, rfl⟩ rfl rfl rfl rfl rfl (by kernel_rfl) Try.func4 (by kernel_rfl)
    (of_decide_eq_true (by kernel_rfl)) (by unfold Func.isWrapper; first | (rw [if_pos (by decide +kernel)]; kernel_rfl) | (rw [if_neg (by decide +kernel)]; exact ⟨rfl, rfl⟩))
    (fun os started H enc _ F => adds_lifted os started H enc F)
end

end Go.Proofs.Ytmicojghbhhblaa
