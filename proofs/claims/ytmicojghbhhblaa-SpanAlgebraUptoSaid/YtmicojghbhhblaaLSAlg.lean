/- What is in not both is what one of both isn't in; both and either do not hang on order, and swallow each other; not not is as it was; for all inputs. -/
import Derived.Test.YtmicojghbhhblaaSpL
import Derived.Test.YtmicojghbhhblaaAlgP
set_option linter.all false
namespace Go.Proofs.Ytmicojghbhhblaa
open Go Go.Abs

noncomputable def cSame : FuncId → Con := fun f => match f with
  | 32 => pureCon (detPC eqSp_D)
  | _ => fun _ _ _ => Bad 1001
theorem cSame_ok : ConOk Try.prog cSame := fun f A H K h => by
  unfold cSame at h
  split at h
  · exact ⟨⟨Try.f32, Try.func32, by kernel_rfl, by kernel_rfl⟩, pureCon_ok eqSp_ok h⟩
  · cases h
def notPF_R (r : Th (Set × Int)) : AV := .tup [.agg [.i .i64 fun _ => (r ()).1.size, Leaf.av fun _ => (r ()).1.spans], .i .i64 fun _ => (r ()).2]
def notPF_D : Det := fun A => match A with
  | [.agg s] => some (fun _ => Dat.ok Set s ∧ notPC_P (Dat.dec s), notPF_R fun _ => notP (Dat.dec s))
  | _ => none
theorem notPF_ok : PcOk Try.prog 20 (detPC notPF_D) := det_okF fun A p r h hp0 => by
  unfold notPF_D at h
  split at h
  · rename_i s
    cases h
    obtain ⟨g0, hp⟩ := hp0
    exact FnOk.froz (FnOk.pre (A' := [.agg (Dat.enc fun _ => (Dat.dec s : Set))]) (notPC_vc (Dat.dec s) hp) (.mk (Dat.hle _ g0) (trivial))) rfl (q := _) (d := _) rfl (by intro p hp; repeat (first | (cases hp; done) | (rcases List.mem_cons.1 hp with rfl | hp; · exact Nat.le_refl _))) rfl ⟨rfl, rfl⟩
  · cases h
def bothPF_R (r : Th (Set × Int)) : AV := .tup [.agg [.i .i64 fun _ => (r ()).1.size, Leaf.av fun _ => (r ()).1.spans], .i .i64 fun _ => (r ()).2]
def bothPF_D : Det := fun A => match A with
  | [.agg a, .agg b] => some (fun _ => Dat.ok Set a ∧ Dat.ok Set b ∧ bothPC_P (Dat.dec a) (Dat.dec b), bothPF_R fun _ => bothP (Dat.dec a) (Dat.dec b))
  | _ => none
theorem bothPF_ok : PcOk Try.prog 30 (detPC bothPF_D) := det_okF fun A p r h hp0 => by
  unfold bothPF_D at h
  split at h
  · rename_i a b
    cases h
    obtain ⟨g0, g1, hp⟩ := hp0
    exact FnOk.froz (FnOk.pre (A' := [.agg (Dat.enc fun _ => (Dat.dec a : Set)), .agg (Dat.enc fun _ => (Dat.dec b : Set))]) (bothPC_vc (Dat.dec a) (Dat.dec b) hp) (.mk (Dat.hle _ g0) (.mk (Dat.hle _ g1) (trivial)))) rfl (q := _) (d := _) rfl (by intro p hp; repeat (first | (cases hp; done) | (rcases List.mem_cons.1 hp with rfl | hp; · exact Nat.le_refl _))) rfl ⟨rfl, rfl⟩
  · cases h
noncomputable def cAlg : FuncId → Con := fun f => match f with
  | 30 => pureCon (detPC bothPF_D)
  | 31 => pureCon (detPC eithC_D)
  | 20 => pureCon (detPC notPF_D)
  | 23 => pureCon (detPC spLives_D)
  | 32 => pureCon (detPC eqSp_D)
  | 26 => inlCon E cSame noDraws [0, 1, 2, 3, 4] Try.f26
  | _ => fun _ _ _ => Bad 1001
theorem cAlg_ok : ConOk Try.prog cAlg := fun f A H K h => by
  unfold cAlg at h
  split at h
  · exact ⟨⟨Try.f30, Try.func30, by kernel_rfl, by kernel_rfl⟩, pureCon_ok bothPF_ok h⟩
  · exact ⟨⟨Try.f31, Try.func31, by kernel_rfl, by kernel_rfl⟩, pureCon_ok eithC_ok h⟩
  · exact ⟨⟨Try.f20, Try.func20, by kernel_rfl, by kernel_rfl⟩, pureCon_ok notPF_ok h⟩
  · exact ⟨⟨Try.f23, Try.func23, by kernel_rfl, by kernel_rfl⟩, pureCon_ok spLives_ok h⟩
  · exact ⟨⟨Try.f32, Try.func32, by kernel_rfl, by kernel_rfl⟩, pureCon_ok eqSp_ok h⟩
  · exact ⟨⟨Try.f26, Try.func26, by kernel_rfl, by kernel_rfl⟩, inl_ok envOk zl cSame_ok noDraws_ok Try.func26 h⟩
  · cases h
set_option maxRecDepth 100000 in
set_option maxHeartbeats 4000000 in
theorem salg_vc (a : Set) (b : Set) (fit_a : Siz.fit a) (fit_b : Siz.fit b) (hB : Siz.bulk a + Siz.bulk b ≤ 1048576) : FnOk Try.prog 12 [.agg (Dat.enc fun _ => a), .agg (Dat.enc fun _ => b)] [] (outA (.bc true) []) := by
  refine fn_ok envOk zl cAlg_ok noDraws_ok (keep := [0, 1, 2, 3, 4, 5, 6, 7, 8, 9, 10, 11, 12, 13, 14, 15, 16, 17, 18, 19, 20, 21, 22, 23, 69, 158, 166]) Try.func12 rfl ?_
  have fin := @fin_b
  have finc := @fin_t
  have hp' : a.spans.length ≤ 9223372036854775807 ∧ b.spans.length ≤ 9223372036854775807 := by
    have h1 := bulk_len Span.one_le a.spans
    have h2 := bulk_len Span.one_le b.spans
    simp only [Siz.bulk] at hB h1 h2
    omega
  generalize outA (.bc true) [] = K at fin finc
  cbv
  repeat' first | (show Stp _; exfalso; first | omega | (exact h ‹_›) | (exact absurd ‹_› h) | (exact Bool.false_ne_true (h.symm.trans (show _ = true by assumption)))) | (refine Stp.mk ?_; cbv) | (refine Gen.mk fun r hr => ?_; (try simp only [Dat.ok, Dat.dec, Leaf.ok, Leaf.val, Span.eta, Set.eta, val_sl, val_nil] at hr); cbv) | exact trivial | rfl | refine Both.mk ?_ ?_ | (refine Imp.mk fun h => ?_; (try dsimp only at h); (try simp only [nc, Int.toNat_natCast, Bool.not_eq_true', Bool.not_eq_false', decide_eq_true_eq, decide_eq_false_iff_not, beq_iff_eq, beq_eq_false_iff_ne, ba_inj, bne_iff_ne, ne_eq, Bool.and_eq_true, Bool.or_eq_true, Bool.and_eq_false_iff, Bool.or_eq_false_iff, Int.not_le, Int.not_lt, Nat.not_le, Nat.not_lt] at h); (try simp only [nc] at h)) | refine Ob.mk ?_ ?_ | refine Chk.mk (by kernel_rfl) ?_ | refine Eq'.mk ?_ | (refine AllN.mk fun i hi => ?_; cbv) | (refine AllS.mk fun r hr => ?_; (try simp only [Dat.ok, Dat.dec, Leaf.ok, Leaf.val, Span.eta, Set.eta, val_sl] at hr); cbv)
  all_goals ((try dsimp only at *); (try simp only [nc, Int.toNat_natCast, Bool.not_eq_true', Bool.not_eq_false', decide_eq_true_eq, decide_eq_false_iff_not, beq_iff_eq, beq_eq_false_iff_ne, ba_inj, bne_iff_ne, ne_eq, Bool.and_eq_true, Bool.or_eq_true, Bool.and_eq_false_iff, Bool.or_eq_false_iff, Int.not_le, Int.not_lt, Nat.not_le, Nat.not_lt] at *); (try simp only [nc] at *))
  all_goals try simp only [Dat.ok, Dat.dec, Leaf.ok, Leaf.val, Span.eta, Set.eta, val_sl] at *
  all_goals first
    | exact finc
    | exact Nat.le_refl _
    | exact ⟨⟨trivial, rfl, fun i _ => Dat.hok _⟩, (by first | exact hp'.1 | exact hp'.2 | exact Nat.le_trans (notP_len _) (by decide) | exact Nat.le_trans (bothP_len _ _) (by decide) | exact Nat.le_trans (eithP_len _ _) (by decide))⟩
    | exact ⟨⟨trivial, rfl, fun i _ => Dat.hok _⟩, ⟨trivial, rfl, fun i _ => Dat.hok _⟩, (by first | exact hp'.1 | exact hp'.2 | exact Nat.le_trans (notP_len _) (by decide) | exact Nat.le_trans (bothP_len _ _) (by decide) | exact Nat.le_trans (eithP_len _ _) (by decide)), (by first | exact hp'.1 | exact hp'.2 | exact Nat.le_trans (notP_len _) (by decide) | exact Nat.le_trans (bothP_len _ _) (by decide) | exact Nat.le_trans (eithP_len _ _) (by decide))⟩
    | exact ⟨⟨rfl, fun i _ => Dat.hok _⟩, ⟨rfl, fun i _ => Dat.hok _⟩, (by first | exact hp'.1 | exact hp'.2 | exact Nat.le_trans (notP_len _) (by decide) | exact Nat.le_trans (bothP_len _ _) (by decide) | exact Nat.le_trans (eithP_len _ _) (by decide))⟩
    | exact ⟨⟨rfl, fun i _ => Dat.hok _⟩, ⟨rfl, fun i _ => ⟨trivial, trivial⟩⟩, (by first | exact hp'.1 | exact hp'.2 | exact Nat.le_trans (notP_len _) (by decide) | exact Nat.le_trans (bothP_len _ _) (by decide) | exact Nat.le_trans (eithP_len _ _) (by decide))⟩
    | (refine fin ?_; show (_ == _) = true; rw [both_swap]; exact beq_self_eq_true _)
    | skip
  all_goals obtain ⟨q1, q2, q3, q4, q5, q6, q7, q8⟩ := alg_law (show (bothP a b).2 = 0 by assumption) (by assumption) (by assumption) (by assumption)
  all_goals have hsl : slV (α := Span) (.sl 2 (fun _ => 1) fun _ => [.i .i64 fun _ => 0, .i .i64 fun _ => a.size]) = [⟨0, a.size⟩] := rfl
  all_goals first
    | (exfalso; exact h q1)
    | (exfalso; rw [q3] at h; exact h rfl)
    | (exfalso; rw [q4] at h; exact h rfl)
    | (exfalso; rw [q5] at h; exact h rfl)
    | (exfalso; rw [q6] at h; exact h rfl)
    | (exfalso; rw [q7] at h; exact h rfl)
    | (exfalso; exact h (by rw [q8 (by assumption) (by assumption)]))
    | (exfalso; exact h (by rw [q2]; done))
    | (exfalso; rw [q2] at h; revert h; unfold eqSp_S; simp; done)
    | (exfalso; rw [q3] at h; revert h; unfold eqSp_S; simp; done)
    | (exfalso; rw [q5, hsl] at h; revert h; unfold eqSp_S; simp; done)
    | (exfalso; rw [q6] at h; revert h; unfold eqSp_S; simp; done)
    | (exfalso; rw [q7] at h; revert h; unfold eqSp_S; simp; done)
    | (refine fin ?_; show decide (_ = _) = true; rw [q8 (by assumption) (by assumption)]; simp)
    | fail
section
open Go.ChangeShapes Go.WideShapes Go.ChangeAt Go.RowKit Go.Joins Go.Deep
set_option linter.unusedVariables false
theorem salg_own : ownKnob Try.prog.godebug = none := by kernel_rfl
theorem salg_laidOut : laidOutB Try.prog = true := by kernel_rfl
theorem salg_readOk {ts : Array TypeId} (h : ts.toList.all (fun t => Try.prog.readableRec t && decide (t < Try.prog.types.size)) = true) : ∀ t ∈ ts.toList, Try.prog.readableRec t = true ∧ t < Try.prog.types.size := fun t ht => by
  have := List.all_eq_true.1 h t ht
  simpa using this
mutual
theorem salg_bD {H : Type} : ∀ d : DataW H, Rows.uptoBulk d = bulkD d
  | .lit l => by cases l <;> simp [Rows.uptoBulk, bulkD]
  | .nil => by simp [Rows.uptoBulk, bulkD]
  | .ptr d => by simp [Rows.uptoBulk, bulkD, salg_bD d]
  | .slice a b => by simp [Rows.uptoBulk, bulkD, salg_bL a, salg_bL b]
  | .agg a => by simp [Rows.uptoBulk, bulkD, salg_bL a]
  | .iface _ d => by simp [Rows.uptoBulk, bulkD, salg_bD d]
  | .map e => by simp [Rows.uptoBulk, bulkD, salg_bE e]
  | .held _ => by simp [Rows.uptoBulk, bulkD]
theorem salg_bL {H : Type} : ∀ d : List (DataW H), Rows.uptoBulkAll d = bulkL d
  | [] => by simp [Rows.uptoBulkAll, bulkL]
  | d :: r => by simp [Rows.uptoBulkAll, bulkL, salg_bD d, salg_bL r]
theorem salg_bE {H : Type} : ∀ d : List (Lit × DataW H), Rows.uptoBulkEntries d = bulkE d
  | [] => by simp [Rows.uptoBulkEntries, bulkE]
  | d :: r => by simp [Rows.uptoBulkEntries, bulkE, salg_bX d, salg_bE r]
theorem salg_bX {H : Type} : ∀ d : Lit × DataW H, Rows.uptoBulkEntry d = bulkX d
  | (l, d) => by cases l <;> simp [Rows.uptoBulkEntry, bulkX, salg_bD d]
end
set_option maxRecDepth 100000 in
theorem salg_lifted (os : Os) (started : os.Started) (H : Type) (enc : TypeId × Value → H) (F : Stop.Interp) :
    ReturnsInHanded {} Try.checked os 12 .any ((Rows.OpenSpec.upto Rows.spanAlgebraSpec).pre6 enc Try.prog Try.f12 Rows.spanAlgebraUptoRow.domain false) (((Rows.OpenSpec.upto Rows.spanAlgebraSpec).at F).post enc Try.prog Try.f12 false true false false) := by
  refine returnsInHanded_of_cond (C := Try.checked) (s := Rows.OpenSpec.upto Rows.spanAlgebraSpec) (k := Rows.uptoSmall) rfl salg_own started (by kernel_rfl) Try.func12
    (OpenSpec.witness (enc := enc) (C := Try.checked) (s := Rows.OpenSpec.upto Rows.spanAlgebraSpec) (k := Rows.uptoSmall) rfl false ⟨#[], #[.agg #[.int .i64 0, .slice none 0 0], .agg #[.int .i64 0, .slice none 0 0]], []⟩ 8 (by kernel_rfl) (by kernel_rfl) (by kernel_rfl)
      (x := ([.agg [.lit (.int .i64 0), .nil], .agg [.lit (.int .i64 0), .nil]], [], [])) (by kernel_rfl) rfl (by kernel_rfl)) ?_
  intro W base args ds gs before hval0 hW _ hk _
  show Calls Try.prog 12 args W fun e W' => ∃ v, e = .returned v ∧ Rows.spanAlgebraSpec.post enc Try.prog Try.f12 false true false false W args v W'
  have hval : ∀ (j : Nat) t v, Try.f12.params[j]? = some t → args[j]? = some v → Value.okWide Try.prog W .any base t v := hval0
  have hW' := hW
  have hlt := hW.lt
  obtain ⟨p, q, hA0, hV, rfl, hfz, hnd⟩ := hW
  have hA : DataW.TrodAll enc Try.prog W 0 (fun _ => true) true Try.f12.params.toList args.toList ds p := hA0
  have hA1 := hA
  rw [Try.params12] at hA hval
  obtain ⟨v0, vs0, d0, ds0, p0, q0, hargs, rfl, rfl, h0, r0⟩ := trodAll_cons hA
  obtain ⟨v1, vs1, d1, ds1, p1, q1, rfl, rfl, rfl, h1, r1⟩ := trodAll_cons r0
  obtain ⟨rfl, rfl, rfl⟩ := trodAll_nil r1
  obtain rfl : args = #[v0, v1] := by cases args; simp_all
  obtain ⟨rfl, rfl⟩ := trodVars_none hV
  obtain ⟨cs0, rfl, _⟩ := okWide_struct Try.underlying24 (hval 0 24 v0 rfl rfl)
  obtain ⟨y0, u0, b0, e0⟩ := arg_agg (α := Set) opn_Set h0
  obtain ⟨cs1, rfl, _⟩ := okWide_struct Try.underlying24 (hval 1 24 v1 rfl rfl)
  obtain ⟨y1, u1, b1, e1⟩ := arg_agg (α := Set) opn_Set h1
  have hB : Siz.bulk y0 + Siz.bulk y1 ≤ 1048576 := by
    have h := of_decide_eq_true hk
    rw [salg_bL] at h
    simp only [List.append_nil, bulkL] at h
    omega
  have hR := repL_cons (M := fun _ => False) (β := fun _ => none) (cp := fun _ => 0) (.c e0) (repL_cons (M := fun _ => False) (β := fun _ => none) (cp := fun _ => 0) (.c e1) (repL_nil))
  refine (law_callsA (salg_vc y0 y1 u0 u1 hB) hR).mono fun e W' ⟨he, bel⟩ => ?_
  subst he
  exact ⟨_, rfl, _, _, _, [], _, [], hW', trodAll_mk1 (shut_bool Try.underlying4 _), trodAll_below salg_laidOut bel (salg_readOk (by kernel_rfl)) (fun x hx => hlt x (List.mem_append_left _ hx)) hA1, rfl, bel.frame _, fun h => by cases h⟩
theorem SpanAlgebra_proved : Rows.SpanAlgebraUptoSaid :=
  OpenClaim.holds_of_cond 12 Try.f12 rfl rfl rfl rfl rfl rfl rfl ⟨rfl, rfl, rfl, rfl, rfl⟩ rfl rfl rfl rfl rfl (by kernel_rfl) Try.func12 (by kernel_rfl)
    (of_decide_eq_true (by kernel_rfl)) (by unfold Func.isWrapper; first | (rw [if_pos (by decide +kernel)]; kernel_rfl) | (rw [if_neg (by decide +kernel)]; exact ⟨rfl, rfl⟩))
    (fun os started H enc _ F => salg_lifted os started H enc F)
end

end Go.Proofs.Ytmicojghbhhblaa
