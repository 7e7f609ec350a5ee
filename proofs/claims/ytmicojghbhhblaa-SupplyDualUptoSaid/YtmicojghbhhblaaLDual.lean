/- The program's functions, walked: LDual. -/
import Derived.Test.YtmicojghbhhblaaNot
import Derived.Test.YtmicojghbhhblaaLEach
set_option linter.all false
namespace Go.Proofs.Ytmicojghbhhblaa
open Go Go.Abs
theorem notS_ok {size : Int} : ∀ {l : List Span} {p a q : Int}, okSp size p l = true → a - 1 ≤ p → q < a → okSp size q (notS size a l) = true
  | [], p, a, q, h, h1, h2 => by
    unfold notS; split
    · rw [okSp_iff]; exact ⟨h2, by assumption, Int.le_refl _, rfl⟩
    · rfl
  | x :: r, p, a, q, h, h1, h2 => by
    obtain ⟨g1, g2, g3, g4⟩ := okSp_iff.1 h
    unfold notS; split
    · rw [okSp_iff]; dsimp only; exact ⟨h2, by assumption, by omega, notS_ok g4 (by omega) g2⟩
    · exact notS_ok g4 (by omega) (by omega)
theorem notS_part {size t : Int} (ht : t ≤ size) : ∀ {l : List Span} {p a : Int}, okSp size p l = true → a - 1 ≤ p → a ≤ size → part t (notS size a l) + part t l = mx0 (t - a)
  | [], p, a, h, h1, h2 => by
    unfold notS; split
    · simp only [part]; unfold mx0 mn; repeat' split
      all_goals omega
    · unfold part mx0; split <;> omega
  | x :: r, p, a, h, h1, h2 => by
    obtain ⟨g1, g2, g3, g4⟩ := okSp_iff.1 h
    have ih := notS_part ht g4 (a := x.to) (by omega) g3
    rw [part]
    unfold notS; split
    · rw [part]
      revert ih
      unfold mx0 mn; dsimp only; repeat' split
      all_goals omega
    · revert ih
      unfold mx0 mn; repeat' split
      all_goals omega
theorem notS_long {size : Int} : ∀ {l : List Span} {p a : Int}, okSp size p l = true → a - 1 ≤ p → a ≤ size → long (notS size a l) + long l = size - a
  | [], p, a, h, h1, h2 => by
    unfold notS; split
    · simp only [long]; omega
    · unfold long; omega
  | x :: r, p, a, h, h1, h2 => by
    obtain ⟨g1, g2, g3, g4⟩ := okSp_iff.1 h
    have ih := notS_long g4 (a := x.to) (by omega) g3
    rw [long]
    unfold notS; split
    · rw [long]; dsimp only; omega
    · omega
theorem not_right {s : Set} (h : Right s) (hl : (notV s).spans.length ≤ 200) : Right (notV s) := ⟨h.s1, h.s2, hl, notS_ok h.ok (by omega) (by omega)⟩
theorem not_upto {s : Set} (h : Right s) {t : Int} (h0 : 0 ≤ t) : uptoV (notV s) t + uptoV s t = t := by
  obtain ⟨e1, e2, e3, e4, e5⟩ := divmod h h0
  have hp := notS_part (t := t % s.size) (by omega) h.ok (a := 0) (by omega) (by have := h.s1; omega)
  have hl := notS_long h.ok (a := 0) (by omega) (by have := h.s1; omega)
  unfold uptoV
  show t.tdiv s.size * long (notS s.size 0 s.spans) + part (t.tmod s.size) (notS s.size 0 s.spans) + _ = t
  rw [e1, e2]
  have h2 : t / s.size * long (notS s.size 0 s.spans) + t / s.size * long s.spans = t / s.size * s.size := by
    rw [← Int.mul_add, hl, Int.sub_zero]
  have h3 : mx0 (t % s.size - 0) = t % s.size := by unfold mx0; split <;> omega
  omega
theorem notP_ok {s : Set} (h : (notP s).2 = 0) : Right s ∧ Right (notV s) ∧ (notP s).1 = notV s := by
  unfold notP at *
  split at h
  · rename_i hc
    have hR := check_iff.1 hc
    split at h
    · cases h
    · rename_i h1
      rw [if_pos hc, if_neg h1]
      exact ⟨hR, not_right hR (by omega), rfl⟩
  · rename_i hc; exact absurd h hc
theorem notP_len (s : Set) : (notP s).1.spans.length ≤ 200 := by
  unfold notP; split
  · split
    · simp
    · dsimp only; omega
  · simp
theorem dual_law {s : Set} (h : Right s) (h' : Right (notV s)) {n : Int} (hn : 0 ≤ n) (hn2 : n ≤ 549755813888) :
    (boundV s n false).1 + (boundV (notV s) n true).1 = n ∧ (boundV (notV s) n true).2 = 0 ∧ 0 ≤ (boundV s n false).1 ∧ 0 ≤ (boundV (notV s) n true).1 := by
  obtain ⟨a, a1, a2, ta, a3, a4, a5⟩ := least_spec h hn hn2
  obtain ⟨x, x1, x2, tx, x3, x4, x5⟩ := most_spec h' hn hn2
  rw [a1, x1]
  dsimp only
  have g1 := win_bd h hn a3
  have g3 := win_bd h' hn x3
  have f1 := a2 tx x3
  have f2 := x2 ta a3
  unfold win at *
  have q1 := not_upto h a3
  have q2 := not_upto h x3
  have q3 := not_upto h (show 0 ≤ ta + n by omega)
  have q4 := not_upto h (show 0 ≤ tx + n by omega)
  refine ⟨by omega, rfl, by omega, by omega⟩
noncomputable def conDu : FuncId → Con := fun f => match f with
  | 20 => pureCon notPC_C
  | 15 => pureCon (detPC leastP_D)
  | 16 => pureCon (detPC mostP_D)
  | 17 => pureCon (detPC lives_D)
  | _ => fun _ _ _ => Bad 1001
theorem conDu_ok : ConOk Try.prog conDu := fun f A H K h => by
  unfold conDu at h
  split at h
  · exact ⟨⟨Try.f20, Try.func20, by kernel_rfl, by kernel_rfl⟩, pureCon_ok notPC_ok h⟩
  · exact ⟨⟨Try.f15, Try.func15, by kernel_rfl, by kernel_rfl⟩, pureCon_ok leastP_ok h⟩
  · exact ⟨⟨Try.f16, Try.func16, by kernel_rfl, by kernel_rfl⟩, pureCon_ok mostP_ok h⟩
  · exact ⟨⟨Try.f17, Try.func17, by kernel_rfl, by kernel_rfl⟩, pureCon_ok lives_ok h⟩
  · cases h
set_option maxRecDepth 100000 in
set_option maxHeartbeats 4000000 in
theorem dual_vc (s : Set) (n : Int) (fit_s : Siz.fit s) (fit_n : Siz.fit n) (hB : Siz.bulk s + Siz.bulk n ≤ 1048576) : FnOk Try.prog 7 [.agg (Dat.enc fun _ => s), .i .i64 fun _ => n] [] (outA (.bc true) []) := by
  refine fn_ok envOk zl conDu_ok noDraws_ok (keep := [0, 1, 2, 4, 5, 6, 7, 8, 9, 10, 37]) Try.func7 rfl ?_
  have fin := @fin_b
  have finc := @fin_t
  have hp' : s.spans.length ≤ 9223372036854775807 := by
    have h1 := bulk_len Span.one_le s.spans
    simp only [Siz.bulk] at hB h1
    omega
  generalize outA (.bc true) [] = K at fin finc
  cbv
  repeat' first | (show Stp _; exfalso; first | omega | (exact h ‹_›) | (exact absurd ‹_› h)) | (refine Stp.mk ?_; cbv) | (refine Gen.mk fun r hr => ?_; (try simp only [Dat.ok, Dat.dec, Leaf.ok, Leaf.val, Span.eta, Set.eta, val_sl, val_nil] at hr); cbv) | exact trivial | rfl | refine Both.mk ?_ ?_ | (refine Imp.mk fun h => ?_; (try dsimp only at h); (try simp only [nc, Int.toNat_natCast, Bool.not_eq_true', Bool.not_eq_false', decide_eq_true_eq, decide_eq_false_iff_not, beq_iff_eq, beq_eq_false_iff_ne, bne_iff_ne, ne_eq, Bool.and_eq_true, Bool.or_eq_true, Bool.and_eq_false_iff, Bool.or_eq_false_iff, Int.not_le, Int.not_lt, Nat.not_le, Nat.not_lt] at h); (try simp only [nc] at h)) | refine Ob.mk ?_ ?_ | refine Eq'.mk ?_ | (refine AllN.mk fun i hi => ?_; cbv)
  all_goals ((try dsimp only at *); (try simp only [nc, Int.toNat_natCast, Bool.not_eq_true', Bool.not_eq_false', decide_eq_true_eq, decide_eq_false_iff_not, beq_iff_eq, beq_eq_false_iff_ne, bne_iff_ne, ne_eq, Bool.and_eq_true, Bool.or_eq_true, Bool.and_eq_false_iff, Bool.or_eq_false_iff, Int.not_le, Int.not_lt, Nat.not_le, Nat.not_lt] at *); (try simp only [nc] at *))
  all_goals try simp only [Dat.ok, Dat.dec, Leaf.ok, Leaf.val, Span.eta, Set.eta, val_sl] at *
  all_goals try simp only [leastP_S, mostP_S] at *
  all_goals try subst hr
  all_goals have hpl := notP_len s
  all_goals first
    | exact finc
    | exact ⟨⟨trivial, rfl, fun i _ => Dat.hok _⟩, hp'⟩
    | exact ⟨⟨trivial, rfl, fun i _ => Dat.hok _⟩, show (notP s).1.spans.length ≤ 9223372036854775807 by omega⟩
    | omega
    | skip
  all_goals obtain ⟨hR, hR', hE⟩ := notP_ok (show (notP s).2 = 0 by assumption)
  all_goals obtain ⟨-, hn0, hn1⟩ := bnd_ok (show (boundV s n false).2 = 0 by assumption)
  all_goals obtain ⟨D1, D2, D3, D4⟩ := dual_law hR hR' hn0 hn1
  all_goals simp only [hE] at *
  all_goals first
    | (unfold InR; omega)
    | exact fin (beq_iff_eq.2 D1)
    | (exfalso; omega)
    | fail
section
open Go.ChangeShapes Go.WideShapes Go.ChangeAt Go.RowKit Go.Joins Go.Deep
set_option linter.unusedVariables false
theorem dual_own : ownKnob Try.prog.godebug = none := by kernel_rfl
theorem dual_laidOut : laidOutB Try.prog = true := by kernel_rfl
theorem dual_readOk {ts : Array TypeId} (h : ts.toList.all (fun t => Try.prog.readableRec t && decide (t < Try.prog.types.size)) = true) : ∀ t ∈ ts.toList, Try.prog.readableRec t = true ∧ t < Try.prog.types.size := fun t ht => by
  have := List.all_eq_true.1 h t ht
  simpa using this
mutual
theorem dual_bD {H : Type} : ∀ d : DataW H, Rows.uptoBulk d = bulkD d
  | .lit l => by cases l <;> simp [Rows.uptoBulk, bulkD]
  | .nil => by simp [Rows.uptoBulk, bulkD]
  | .ptr d => by simp [Rows.uptoBulk, bulkD, dual_bD d]
  | .slice a b => by simp [Rows.uptoBulk, bulkD, dual_bL a, dual_bL b]
  | .agg a => by simp [Rows.uptoBulk, bulkD, dual_bL a]
  | .iface _ d => by simp [Rows.uptoBulk, bulkD, dual_bD d]
  | .map e => by simp [Rows.uptoBulk, bulkD, dual_bE e]
  | .held _ => by simp [Rows.uptoBulk, bulkD]
theorem dual_bL {H : Type} : ∀ d : List (DataW H), Rows.uptoBulkAll d = bulkL d
  | [] => by simp [Rows.uptoBulkAll, bulkL]
  | d :: r => by simp [Rows.uptoBulkAll, bulkL, dual_bD d, dual_bL r]
theorem dual_bE {H : Type} : ∀ d : List (Lit × DataW H), Rows.uptoBulkEntries d = bulkE d
  | [] => by simp [Rows.uptoBulkEntries, bulkE]
  | d :: r => by simp [Rows.uptoBulkEntries, bulkE, dual_bX d, dual_bE r]
theorem dual_bX {H : Type} : ∀ d : Lit × DataW H, Rows.uptoBulkEntry d = bulkX d
  | (l, d) => by cases l <;> simp [Rows.uptoBulkEntry, bulkX, dual_bD d]
end
set_option maxRecDepth 100000 in
theorem dual_lifted (os : Os) (started : os.Started) (H : Type) (enc : TypeId × Value → H) (F : Stop.Interp) :
    ReturnsInHanded {} Try.checked os 7 .any ((Rows.OpenSpec.upto Rows.supplyDualSpec).pre6 enc Try.prog Try.f7 Rows.supplyDualUptoRow.domain false) (((Rows.OpenSpec.upto Rows.supplyDualSpec).at F).post enc Try.prog Try.f7 false true false false) := by
  refine returnsInHanded_of_cond (C := Try.checked) (s := Rows.OpenSpec.upto Rows.supplyDualSpec) (k := Rows.uptoSmall) rfl dual_own started (by kernel_rfl) Try.func7
    (OpenSpec.witness (enc := enc) (C := Try.checked) (s := Rows.OpenSpec.upto Rows.supplyDualSpec) (k := Rows.uptoSmall) rfl false ⟨#[], #[.agg #[.int .i64 0, .slice none 0 0], .int .i64 0], []⟩ 8 (by kernel_rfl) (by kernel_rfl) (by kernel_rfl)
      (x := ([.agg [.lit (.int .i64 0), .nil], .lit (.int .i64 0)], [], [])) (by kernel_rfl) rfl (by kernel_rfl)) ?_
  intro W base args ds gs before hval0 hW _ hk _
  show Calls Try.prog 7 args W fun e W' => ∃ v, e = .returned v ∧ Rows.supplyDualSpec.post enc Try.prog Try.f7 false true false false W args v W'
  have hval : ∀ (j : Nat) t v, Try.f7.params[j]? = some t → args[j]? = some v → Value.okWide Try.prog W .any base t v := hval0
  have hW' := hW
  have hlt := hW.lt
  obtain ⟨p, q, hA0, hV, rfl, hfz, hnd⟩ := hW
  have hA : DataW.TrodAll enc Try.prog W 0 (fun _ => true) true Try.f7.params.toList args.toList ds p := hA0
  have hA1 := hA
  rw [Try.params7] at hA hval
  obtain ⟨v0, vs0, d0, ds0, p0, q0, hargs, rfl, rfl, h0, r0⟩ := trodAll_cons hA
  obtain ⟨v1, vs1, d1, ds1, p1, q1, rfl, rfl, rfl, h1, r1⟩ := trodAll_cons r0
  obtain ⟨rfl, rfl, rfl⟩ := trodAll_nil r1
  obtain rfl : args = #[v0, v1] := by cases args; simp_all
  obtain ⟨rfl, rfl⟩ := trodVars_none hV
  obtain ⟨cs0, rfl, _⟩ := okWide_struct Try.underlying24 (hval 0 24 v0 rfl rfl)
  obtain ⟨y0, u0, b0, e0⟩ := arg_agg (α := Set) opn_Set h0
  obtain ⟨z1, rfl⟩ := okWide_int Try.underlying3 (hval 1 3 v1 rfl rfl)
  obtain ⟨y1, u1, b1, e1⟩ := arg_leaf (α := Int) (opn_int Try.underlying3) rfl h1
  have hB : Siz.bulk y0 + Siz.bulk y1 ≤ 1048576 := by
    have h := of_decide_eq_true hk
    rw [dual_bL] at h
    simp only [List.append_nil, bulkL] at h
    omega
  have hR := repL_cons (M := fun _ => False) (β := fun _ => none) (cp := fun _ => 0) (.c e0) (repL_cons (M := fun _ => False) (β := fun _ => none) (cp := fun _ => 0) (.c e1) (repL_nil))
  refine (law_callsA (dual_vc y0 y1 u0 u1 hB) hR).mono fun e W' ⟨he, bel⟩ => ?_
  subst he
  exact ⟨_, rfl, _, _, _, [], _, [], hW', trodAll_mk1 (shut_bool Try.underlying4 _), trodAll_below dual_laidOut bel (dual_readOk (by kernel_rfl)) (fun x hx => hlt x (List.mem_append_left _ hx)) hA1, rfl, bel.frame _, fun h => by cases h⟩
theorem SupplyDual_proved : Rows.SupplyDualUptoSaid :=
  OpenClaim.holds_of_cond 7 Try.f7 rfl rfl rfl rfl rfl rfl rfl ⟨rfl, rfl, rfl, rfl, rfl⟩ rfl rfl rfl rfl rfl (by kernel_rfl) Try.func7 (by kernel_rfl)
    (of_decide_eq_true (by kernel_rfl)) (by unfold Func.isWrapper; first | (rw [if_pos (by decide +kernel)]; kernel_rfl) | (rw [if_neg (by decide +kernel)]; exact ⟨rfl, rfl⟩))
    (fun os started H enc _ F => dual_lifted os started H enc F)
end

end Go.Proofs.Ytmicojghbhhblaa
