/- What was done by some time is done so by any later one; for all inputs. -/
import Derived.Test.YthgmnejlhljlaaaPlayL
set_option linter.all false
namespace Go.Proofs.Ythgmnejlhljlaaa
open Go Go.Abs

theorem stepQ_len {fx : Bool} {s : Set} {t : Int} {x : QS} : (stepQ fx s t x).out.length ≤ x.out.length + 1 := by
  unfold stepQ tickQ
  dsimp only
  split
  · split
    · exact Nat.le_add_right _ _
    · split
      · simp
      · exact Nat.le_add_right _ _
  · exact Nat.le_add_right _ _
theorem runQ_len {fx : Bool} {s : Set} : ∀ {n : Nat} {t : Int} {x : QS}, (runQ fx s n t x).out.length ≤ x.out.length + n
  | 0, t, x => Nat.le_refl _
  | n + 1, t, x => by
    have h1 := stepQ_len (fx := fx) (s := s) (t := t) (x := x)
    have h2 := runQ_len (fx := fx) (s := s) (n := n) (t := t + 1) (x := stepQ fx s t x)
    rw [runQ]
    omega
theorem play_len (l : List Task) (s : Set) (first : List Int) (policy u : Int) : (playJ l s first policy u).1.length ≤ 9223372036854775807 := by
  by_cases h : (playJ l s first policy u).2.2 = 0
  · obtain ⟨_, _, _, _, a5, _, e1⟩ := playJ_ok h
    rw [e1]
    dsimp only
    have := runQ_len (fx := decide (policy = 2)) (s := s) (n := u.toNat) (t := 0) (x := ⟨sortS (jobsL u 0 l first), [], [], 0⟩)
    simp only [List.length_nil] at this
    omega
  · have e : (playJ l s first policy u).1 = [] := play_err h
    rw [e]; exact Nat.zero_le _
noncomputable def cPO : FuncId → Con := fun f => match f with
  | 9 => pureCon playC_C
  | 10 => pureCon (detPC plLives_D)
  | 11 => pureCon (detPC eqDn_D)
  | _ => fun _ _ _ => Bad 1001
theorem cPO_ok : ConOk Try.prog cPO := fun f A H K h => by
  unfold cPO at h
  split at h
  · exact ⟨⟨Try.f9, Try.func9, by kernel_rfl, by kernel_rfl⟩, pureCon_ok playC_ok h⟩
  · exact ⟨⟨Try.f10, Try.func10, by kernel_rfl, by kernel_rfl⟩, pureCon_ok plLives_ok h⟩
  · exact ⟨⟨Try.f11, Try.func11, by kernel_rfl, by kernel_rfl⟩, pureCon_ok eqDn_ok h⟩
  · cases h
set_option maxRecDepth 100000 in
set_option maxHeartbeats 4000000 in
theorem playon_vc (l : (List Task)) (s : Set) (first : (List Int)) (policy : Int) (u : Int) (v : Int) (fit_l : Siz.fit l) (fit_s : Siz.fit s) (fit_first : Siz.fit first) (fit_policy : Siz.fit policy) (fit_u : Siz.fit u) (fit_v : Siz.fit v) (hB : Siz.bulk l + Siz.bulk s + Siz.bulk first + Siz.bulk policy + Siz.bulk u + Siz.bulk v ≤ 1048576) : FnOk Try.prog 3 [Leaf.av fun _ => l, .agg (Dat.enc fun _ => s), Leaf.av fun _ => first, .i .i64 fun _ => policy, .i .i64 fun _ => u, .i .i64 fun _ => v] [] (outA (.bc true) []) := by
  refine fn_ok envOk zl cPO_ok noDraws_ok (keep := [0, 1, 2, 3, 4, 5, 7, 12, 13, 14, 15, 16, 17, 18, 53]) Try.func3 rfl ?_
  have fin := @fin_b
  have finc := @fin_t
  have hpre : l.length ≤ 9223372036854775807 ∧ s.spans.length ≤ 9223372036854775807 ∧ first.length ≤ 9223372036854775807 := by
    have h1 := bulk_len (α := Task) Task.one_le l
    have h2 := bulk_len Span.one_le s.spans
    have h3 := bulk_len (α := Int) (fun _ => Nat.le_refl _) first
    simp only [Siz.bulk] at hB h1 h2 h3
    omega
  generalize outA (.bc true) [] = K at fin finc
  cbv
  repeat' first | (show Stp _; exfalso; first | omega | (exact h ‹_›) | (exact absurd ‹_› h) | (exact Bool.false_ne_true (h.symm.trans (show _ = true by assumption)))) | (refine Stp.mk ?_; cbv) | (refine Gen.mk fun r hr => ?_; (try simp only [Dat.ok, Dat.dec, Leaf.ok, Leaf.val, Span.eta, Set.eta, Task.eta, Done.eta, job.eta, Late.eta, val_sl, val_nil] at hr); cbv) | exact trivial | rfl | refine Both.mk ?_ ?_ | (refine Imp.mk fun h => ?_; (try dsimp only at h); (try simp only [nc, Int.toNat_natCast, Bool.not_eq_true', Bool.not_eq_false', decide_eq_true_eq, decide_eq_false_iff_not, beq_iff_eq, beq_eq_false_iff_ne, ba_inj, bne_iff_ne, ne_eq, Bool.and_eq_true, Bool.or_eq_true, Bool.and_eq_false_iff, Bool.or_eq_false_iff, Int.not_le, Int.not_lt, Nat.not_le, Nat.not_lt] at h); (try simp only [nc] at h)) | refine Ob.mk ?_ ?_ | refine Chk.mk (by kernel_rfl) ?_ | refine Eq'.mk ?_ | (refine AllN.mk fun i hi => ?_; cbv) | (refine AllC.mk fun c hc hcm => ?_; (try dsimp only at hc); cbv) | (refine AllS.mk fun r hr => ?_; (try simp only [Dat.ok, Dat.dec, Leaf.ok, Leaf.val, Span.eta, Set.eta, Task.eta, Done.eta, job.eta, Late.eta, val_sl] at hr); cbv)
  all_goals ((try dsimp only at *); (try simp only [nc, Int.toNat_natCast, Bool.not_eq_true', Bool.not_eq_false', decide_eq_true_eq, decide_eq_false_iff_not, beq_iff_eq, beq_eq_false_iff_ne, ba_inj, bne_iff_ne, ne_eq, Bool.and_eq_true, Bool.or_eq_true, Bool.and_eq_false_iff, Bool.or_eq_false_iff, Int.not_le, Int.not_lt, Nat.not_le, Nat.not_lt] at *); (try simp only [nc] at *))
  all_goals try simp only [Dat.dec, Leaf.val, Span.eta, Set.eta, Task.eta, Done.eta, job.eta, Late.eta, val_sl] at *
  all_goals try (first
    | exact finc
    | exact Nat.le_refl _
    | omega
    | exact ⟨by omega, by omega⟩
    | exact ⟨trivial, by omega, by omega⟩
    | exact ⟨⟨rfl, fun i _ => Dat.hok _⟩, ⟨trivial, rfl, fun i _ => Dat.hok _⟩, ⟨rfl, fun i _ => Dat.hok _⟩, hpre⟩)
  all_goals repeat (rename (_ = playJ _ _ _ _ _) => hq3; have hq4 := hq3.symm; clear hq3; subst hq4)
  all_goals have P := play_on (show (playJ l s first policy u).2.2 = 0 by assumption) (show (playJ l s first policy v).2.2 = 0 by assumption) (by assumption)
  all_goals have hvt := val_take (playJ l s first policy v).1 4 (playJ l s first policy u).1.length P.1
  all_goals have hlen : (playJ l s first policy u).1.length ≤ 9223372036854775807 := (play_len _ _ _ _ _)
  all_goals first
    | exact ⟨⟨rfl, fun i _ => Dat.hok _⟩, ⟨rfl, fun i _ => Dat.hok _⟩, hlen⟩
    | (refine fin ?_
       exact decide_eq_true P.2.2)
    | (exfalso
       have h9 : decide ((playJ l s first policy u).1 = slV (.sl 4 (fun _ => (playJ l s first policy u).1.length) fun i => Dat.enc fun _ => (playJ l s first policy v).1.getD (i ()) Dat.d0)) = false := by assumption
       rw [hvt, P.2.1] at h9
       simp at h9)
    | (exfalso
       have := P.1
       omega)
    | fail
section
open Go.ChangeShapes Go.WideShapes Go.ChangeAt Go.RowKit Go.Joins Go.Deep
set_option linter.unusedVariables false
theorem playon_own : ownKnob Try.prog.godebug = none := by kernel_rfl
theorem playon_laidOut : laidOutB Try.prog = true := by kernel_rfl
theorem playon_readOk {ts : Array TypeId} (h : ts.toList.all (fun t => Try.prog.readableRec t && decide (t < Try.prog.types.size)) = true) : ∀ t ∈ ts.toList, Try.prog.readableRec t = true ∧ t < Try.prog.types.size := fun t ht => by
  have := List.all_eq_true.1 h t ht
  simpa using this
mutual
theorem playon_bD {H : Type} : ∀ d : DataW H, Rows.uptoBulk d = bulkD d
  | .lit l => by cases l <;> simp [Rows.uptoBulk, bulkD]
  | .nil => by simp [Rows.uptoBulk, bulkD]
  | .ptr d => by simp [Rows.uptoBulk, bulkD, playon_bD d]
  | .slice a b => by simp [Rows.uptoBulk, bulkD, playon_bL a, playon_bL b]
  | .agg a => by simp [Rows.uptoBulk, bulkD, playon_bL a]
  | .iface _ d => by simp [Rows.uptoBulk, bulkD, playon_bD d]
  | .map e => by simp [Rows.uptoBulk, bulkD, playon_bE e]
  | .held _ => by simp [Rows.uptoBulk, bulkD]
theorem playon_bL {H : Type} : ∀ d : List (DataW H), Rows.uptoBulkAll d = bulkL d
  | [] => by simp [Rows.uptoBulkAll, bulkL]
  | d :: r => by simp [Rows.uptoBulkAll, bulkL, playon_bD d, playon_bL r]
theorem playon_bE {H : Type} : ∀ d : List (Lit × DataW H), Rows.uptoBulkEntries d = bulkE d
  | [] => by simp [Rows.uptoBulkEntries, bulkE]
  | d :: r => by simp [Rows.uptoBulkEntries, bulkE, playon_bX d, playon_bE r]
theorem playon_bX {H : Type} : ∀ d : Lit × DataW H, Rows.uptoBulkEntry d = bulkX d
  | (l, d) => by cases l <;> simp [Rows.uptoBulkEntry, bulkX, playon_bD d]
end
set_option maxRecDepth 100000 in
theorem playon_lifted (os : Os) (started : os.Started) (H : Type) (enc : TypeId × Value → H) (F : Stop.Interp) :
    ReturnsInHanded {} Try.checked os 3 .any ((Rows.OpenSpec.upto Rows.playOnSpec).pre6 enc Try.prog Try.f3 Rows.playOnUptoRow.domain false) (((Rows.OpenSpec.upto Rows.playOnSpec).at F).post enc Try.prog Try.f3 false true false false) := by
  refine returnsInHanded_of_cond (C := Try.checked) (s := Rows.OpenSpec.upto Rows.playOnSpec) (k := Rows.uptoSmall) rfl playon_own started (by kernel_rfl) Try.func3
    (OpenSpec.witness (enc := enc) (C := Try.checked) (s := Rows.OpenSpec.upto Rows.playOnSpec) (k := Rows.uptoSmall) rfl false ⟨#[], #[.slice none 0 0, .agg #[.int .i64 0, .slice none 0 0], .slice none 0 0, .int .i64 0, .int .i64 0, .int .i64 0], []⟩ 8 (by kernel_rfl) (by kernel_rfl) (by kernel_rfl)
      (x := ([.nil, .agg [.lit (.int .i64 0), .nil], .nil, .lit (.int .i64 0), .lit (.int .i64 0), .lit (.int .i64 0)], [], [])) (by kernel_rfl) rfl (by kernel_rfl)) ?_
  intro W base args ds gs before hval0 hW _ hk _
  show Calls Try.prog 3 args W fun e W' => ∃ v, e = .returned v ∧ Rows.playOnSpec.post enc Try.prog Try.f3 false true false false W args v W'
  have hval : ∀ (j : Nat) t v, Try.f3.params[j]? = some t → args[j]? = some v → Value.okWide Try.prog W .any base t v := hval0
  have hW' := hW
  have hlt := hW.lt
  obtain ⟨p, q, hA0, hV, rfl, hfz, hnd⟩ := hW
  have hA : DataW.TrodAll enc Try.prog W 0 (fun _ => true) true Try.f3.params.toList args.toList ds p := hA0
  have hA1 := hA
  rw [Try.params3] at hA hval
  obtain ⟨v0, vs0, d0, ds0, p0, q0, hargs, rfl, rfl, h0, r0⟩ := trodAll_cons hA
  obtain ⟨v1, vs1, d1, ds1, p1, q1, rfl, rfl, rfl, h1, r1⟩ := trodAll_cons r0
  obtain ⟨v2, vs2, d2, ds2, p2, q2, rfl, rfl, rfl, h2, r2⟩ := trodAll_cons r1
  obtain ⟨v3, vs3, d3, ds3, p3, q3, rfl, rfl, rfl, h3, r3⟩ := trodAll_cons r2
  obtain ⟨v4, vs4, d4, ds4, p4, q4, rfl, rfl, rfl, h4, r4⟩ := trodAll_cons r3
  obtain ⟨v5, vs5, d5, ds5, p5, q5, rfl, rfl, rfl, h5, r5⟩ := trodAll_cons r4
  obtain ⟨rfl, rfl, rfl⟩ := trodAll_nil r5
  obtain rfl : args = #[v0, v1, v2, v3, v4, v5] := by cases args; simp_all
  obtain ⟨rfl, rfl⟩ := trodVars_none hV
  obtain ⟨z0, z'0, z''0, rfl⟩ := okWide_slice Try.underlying22 (hval 0 22 v0 rfl rfl)
  obtain ⟨y0, u0, b0, e0⟩ := arg_leaf (α := (List Task)) (opn_slice Try.underlying22 (by kernel_rfl) (by decide) opn_Task) rfl h0
  obtain ⟨cs1, rfl, _⟩ := okWide_struct Try.underlying25 (hval 1 25 v1 rfl rfl)
  obtain ⟨y1, u1, b1, e1⟩ := arg_agg (α := Set) opn_Set h1
  obtain ⟨z2, z'2, z''2, rfl⟩ := okWide_slice Try.underlying26 (hval 2 26 v2 rfl rfl)
  obtain ⟨y2, u2, b2, e2⟩ := arg_leaf (α := (List Int)) (opn_slice Try.underlying26 (by kernel_rfl) (by decide) (opn_int Try.underlying3)) rfl h2
  obtain ⟨z3, rfl⟩ := okWide_int Try.underlying3 (hval 3 3 v3 rfl rfl)
  obtain ⟨y3, u3, b3, e3⟩ := arg_leaf (α := Int) (opn_int Try.underlying3) rfl h3
  obtain ⟨z4, rfl⟩ := okWide_int Try.underlying3 (hval 4 3 v4 rfl rfl)
  obtain ⟨y4, u4, b4, e4⟩ := arg_leaf (α := Int) (opn_int Try.underlying3) rfl h4
  obtain ⟨z5, rfl⟩ := okWide_int Try.underlying3 (hval 5 3 v5 rfl rfl)
  obtain ⟨y5, u5, b5, e5⟩ := arg_leaf (α := Int) (opn_int Try.underlying3) rfl h5
  have hB : Siz.bulk y0 + Siz.bulk y1 + Siz.bulk y2 + Siz.bulk y3 + Siz.bulk y4 + Siz.bulk y5 ≤ 1048576 := by
    have h := of_decide_eq_true hk
    rw [playon_bL] at h
    simp only [List.append_nil, bulkL] at h
    omega
  have hR := repL_cons (M := fun _ => False) (β := fun _ => none) (cp := fun _ => 0) (.c e0) (repL_cons (M := fun _ => False) (β := fun _ => none) (cp := fun _ => 0) (.c e1) (repL_cons (M := fun _ => False) (β := fun _ => none) (cp := fun _ => 0) (.c e2) (repL_cons (M := fun _ => False) (β := fun _ => none) (cp := fun _ => 0) (.c e3) (repL_cons (M := fun _ => False) (β := fun _ => none) (cp := fun _ => 0) (.c e4) (repL_cons (M := fun _ => False) (β := fun _ => none) (cp := fun _ => 0) (.c e5) (repL_nil))))))
  refine (law_callsA (playon_vc y0 y1 y2 y3 y4 y5 u0 u1 u2 u3 u4 u5 hB) hR).mono fun e W' ⟨he, bel⟩ => ?_
  subst he
  exact ⟨_, rfl, _, _, _, [], _, [], hW', trodAll_mk1 (shut_bool Try.underlying4 _), trodAll_below playon_laidOut bel (playon_readOk (by kernel_rfl)) (fun x hx => hlt x (List.mem_append_left _ hx)) hA1, rfl, bel.frame _, fun h => by cases h⟩
theorem PlayOn_proved : Rows.PlayOnUptoSaid :=
  OpenClaim.holds_of_cond 3 Try.f3 rfl rfl rfl rfl rfl rfl rfl ⟨rfl, rfl, rfl, rfl, rfl⟩ rfl rfl rfl rfl rfl (by kernel_rfl) Try.func3 (by kernel_rfl)
    (of_decide_eq_true (by kernel_rfl)) (by unfold Func.isWrapper; first | (rw [if_pos (by decide +kernel)]; kernel_rfl) | (rw [if_neg (by decide +kernel)]; exact ⟨rfl, rfl⟩))
    (fun os started H enc _ F => playon_lifted os started H enc F)
end

end Go.Proofs.Ythgmnejlhljlaaa
