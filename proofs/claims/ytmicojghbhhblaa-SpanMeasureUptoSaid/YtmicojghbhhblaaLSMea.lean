/- Of two sets of times both and either have together as many times as each; a set and what is not in it have all; for all inputs. -/
import Derived.Test.YtmicojghbhhblaaSpL
import Derived.Test.YtmicojghbhhblaaAlgP
set_option linter.all false
namespace Go.Proofs.Ytmicojghbhhblaa
open Go Go.Abs

theorem mea_law {a b : Set} {f t : Int} (e1 : (bothP a b).2 = 0) (e2 : (eitherP a b).2 = 0) (e3 : (notP a).2 = 0) (h0 : 0 ≤ f) (h1 : f ≤ t) (h2 : t ≤ 1099511627776) :
    ∃ x1 x2 x3 x4 x5, countV (bothP a b).1 f t = (x1, 0) ∧ countV (eitherP a b).1 f t = (x2, 0) ∧ countV a f t = (x3, 0) ∧ countV b f t = (x4, 0) ∧ countV (notP a).1 f t = (x5, 0) ∧ x1 + x2 = x3 + x4 ∧ x5 + x3 = t - f ∧
      (0 ≤ x1 ∧ x1 ≤ t - f) ∧ (0 ≤ x2 ∧ x2 ≤ t - f) ∧ (0 ≤ x3 ∧ x3 ≤ t - f) ∧ (0 ≤ x4 ∧ x4 ≤ t - f) ∧ (0 ≤ x5 ∧ x5 ≤ t - f) := by
  obtain ⟨ha, hb, hs, hl⟩ := bothP_iff.1 e1
  obtain ⟨-, -, -, ho⟩ := eithP_iff.1 e2
  obtain ⟨-, hna⟩ := notP_iff.1 e3
  have na := ha.nm
  have nb : Nm a.size b.spans := by rw [hs]; exact hb.nm
  rw [bothP_val ha hb hs hl, eithP_val ha hb hs ho, notP_val ha hna]
  have rB : Right ⟨a.size, bothR a.spans b.spans⟩ := ⟨ha.s1, ha.s2, hl, na.both nb⟩
  have rO : Right ⟨a.size, orR a.size a.spans b.spans⟩ := ⟨ha.s1, ha.s2, ho, na.or nb⟩
  have rA : Right ⟨a.size, notS a.size 0 a.spans⟩ := ⟨ha.s1, ha.s2, hna, na.not⟩
  have sum := fun k : Nat => upto_sum rB rO ha hb rfl rfl hs.symm (fun t => na.inA nb t) (fun t => na.inO nb t) k
  have s1 := sum f.toNat
  have s2 := sum t.toNat
  rw [show ((f.toNat : Nat) : Int) = f by omega] at s1
  rw [show ((t.toNat : Nat) : Int) = t by omega] at s2
  have n1 := not_upto ha h0
  have n2 := not_upto ha (show 0 ≤ t by omega)
  have ev : notV a = ⟨a.size, notS a.size 0 a.spans⟩ := rfl
  rw [ev] at n1 n2
  refine ⟨_, _, _, _, _, count_of rB h0 h1 h2, count_of rO h0 h1 h2, count_of ha h0 h1 h2, count_of hb h0 h1 h2, count_of rA h0 h1 h2, by omega, by omega, ?_, ?_, ?_, ?_, ?_⟩
  · have := upto_le rB h0 h1; omega
  · have := upto_le rO h0 h1; omega
  · have := upto_le ha h0 h1; omega
  · have := upto_le hb h0 h1; omega
  · have := upto_le rA h0 h1; omega
def notPF_R (r : Th (Set × Int)) : AV := .tup [.agg [.i .i64 fun _ => (r ()).1.size, Leaf.av fun _ => (r ()).1.spans], .i .i64 fun _ => (r ()).2]
def notPF_D : Det := fun A => match A with
  | [.agg s] => some (fun _ => Dat.ok Set s ∧ notPC_P (Dat.dec s), notPF_R fun _ => notP (Dat.dec s))
  | _ => none
theorem notPF_ok : PcOk Try.prog 20 (detPC notPF_D) := det_okF fun A p r h hp0 => by
  unfold notPF_D at h
  split at h
  · rename_i s
    cases h
    obtain ⟨g0, hp⟩ := hp0
    exact FnOk.froz (FnOk.pre (A' := [.agg (Dat.enc fun _ => (Dat.dec s : Set))]) (notPC_vc (Dat.dec s) hp) (.mk (Dat.hle _ g0) (trivial))) rfl (q := _) (d := _) rfl (by intro p hp; repeat (first | (cases hp; done) | (rcases List.mem_cons.1 hp with rfl | hp; · exact Nat.le_refl _))) rfl ⟨rfl, rfl⟩
  · cases h
def bothPF_R (r : Th (Set × Int)) : AV := .tup [.agg [.i .i64 fun _ => (r ()).1.size, Leaf.av fun _ => (r ()).1.spans], .i .i64 fun _ => (r ()).2]
def bothPF_D : Det := fun A => match A with
  | [.agg a, .agg b] => some (fun _ => Dat.ok Set a ∧ Dat.ok Set b ∧ bothPC_P (Dat.dec a) (Dat.dec b), bothPF_R fun _ => bothP (Dat.dec a) (Dat.dec b))
  | _ => none
theorem bothPF_ok : PcOk Try.prog 30 (detPC bothPF_D) := det_okF fun A p r h hp0 => by
  unfold bothPF_D at h
  split at h
  · rename_i a b
    cases h
    obtain ⟨g0, g1, hp⟩ := hp0
    exact FnOk.froz (FnOk.pre (A' := [.agg (Dat.enc fun _ => (Dat.dec a : Set)), .agg (Dat.enc fun _ => (Dat.dec b : Set))]) (bothPC_vc (Dat.dec a) (Dat.dec b) hp) (.mk (Dat.hle _ g0) (.mk (Dat.hle _ g1) (trivial)))) rfl (q := _) (d := _) rfl (by intro p hp; repeat (first | (cases hp; done) | (rcases List.mem_cons.1 hp with rfl | hp; · exact Nat.le_refl _))) rfl ⟨rfl, rfl⟩
  · cases h
noncomputable def cMea : FuncId → Con := fun f => match f with
  | 30 => pureCon (detPC bothPF_D)
  | 31 => pureCon (detPC eithC_D)
  | 20 => pureCon (detPC notPF_D)
  | 23 => pureCon (detPC spLives_D)
  | 18 => pureCon (detPC count_D)
  | _ => fun _ _ _ => Bad 1001
theorem cMea_ok : ConOk Try.prog cMea := fun f A H K h => by
  unfold cMea at h
  split at h
  · exact ⟨⟨Try.f30, Try.func30, by kernel_rfl, by kernel_rfl⟩, pureCon_ok bothPF_ok h⟩
  · exact ⟨⟨Try.f31, Try.func31, by kernel_rfl, by kernel_rfl⟩, pureCon_ok eithC_ok h⟩
  · exact ⟨⟨Try.f20, Try.func20, by kernel_rfl, by kernel_rfl⟩, pureCon_ok notPF_ok h⟩
  · exact ⟨⟨Try.f23, Try.func23, by kernel_rfl, by kernel_rfl⟩, pureCon_ok spLives_ok h⟩
  · exact ⟨⟨Try.f18, Try.func18, by kernel_rfl, by kernel_rfl⟩, pureCon_ok count_ok h⟩
  · cases h
set_option maxRecDepth 100000 in
set_option maxHeartbeats 4000000 in
theorem smea_vc (a : Set) (b : Set) (frm : Int) (to : Int) (fit_a : Siz.fit a) (fit_b : Siz.fit b) (fit_frm : Siz.fit frm) (fit_to : Siz.fit to) (hB : Siz.bulk a + Siz.bulk b + Siz.bulk frm + Siz.bulk to ≤ 1048576) : FnOk Try.prog 13 [.agg (Dat.enc fun _ => a), .agg (Dat.enc fun _ => b), .i .i64 fun _ => frm, .i .i64 fun _ => to] [] (outA (.bc true) []) := by
  refine fn_ok envOk zl cMea_ok noDraws_ok (keep := [0, 1, 2, 3, 4, 5, 8, 9, 10, 11, 12, 13, 14, 15, 16, 17, 18, 19, 63, 71, 72, 73, 84, 88, 94, 100, 104]) Try.func13 rfl ?_
  have fin := @fin_b
  have finc := @fin_t
  have hp' : a.spans.length ≤ 9223372036854775807 ∧ b.spans.length ≤ 9223372036854775807 := by
    have h1 := bulk_len Span.one_le a.spans
    have h2 := bulk_len Span.one_le b.spans
    simp only [Siz.bulk] at hB h1 h2
    omega
  generalize outA (.bc true) [] = K at fin finc
  cbv
  repeat' first | (show Stp _; exfalso; first | omega | (exact h ‹_›) | (exact absurd ‹_› h) | (exact Bool.false_ne_true (h.symm.trans (show _ = true by assumption)))) | (refine Stp.mk ?_; cbv) | (refine Gen.mk fun r hr => ?_; (try simp only [Dat.ok, Dat.dec, Leaf.ok, Leaf.val, Span.eta, Set.eta, val_sl, val_nil] at hr); cbv) | exact trivial | rfl | refine Both.mk ?_ ?_ | (refine Imp.mk fun h => ?_; (try dsimp only at h); (try simp only [nc, Int.toNat_natCast, Bool.not_eq_true', Bool.not_eq_false', decide_eq_true_eq, decide_eq_false_iff_not, beq_iff_eq, beq_eq_false_iff_ne, ba_inj, bne_iff_ne, ne_eq, Bool.and_eq_true, Bool.or_eq_true, Bool.and_eq_false_iff, Bool.or_eq_false_iff, Int.not_le, Int.not_lt, Nat.not_le, Nat.not_lt] at h); (try simp only [nc] at h)) | refine Ob.mk ?_ ?_ | refine Chk.mk (by kernel_rfl) ?_ | refine Eq'.mk ?_ | (refine AllN.mk fun i hi => ?_; cbv) | (refine AllS.mk fun r hr => ?_; (try simp only [Dat.ok, Dat.dec, Leaf.ok, Leaf.val, Span.eta, Set.eta, val_sl] at hr); cbv)
  all_goals ((try dsimp only at *); (try simp only [nc, Int.toNat_natCast, Bool.not_eq_true', Bool.not_eq_false', decide_eq_true_eq, decide_eq_false_iff_not, beq_iff_eq, beq_eq_false_iff_ne, ba_inj, bne_iff_ne, ne_eq, Bool.and_eq_true, Bool.or_eq_true, Bool.and_eq_false_iff, Bool.or_eq_false_iff, Int.not_le, Int.not_lt, Nat.not_le, Nat.not_lt] at *); (try simp only [nc] at *))
  all_goals try simp only [Dat.ok, Dat.dec, Leaf.ok, Leaf.val, Span.eta, Set.eta, val_sl] at *
  all_goals first
    | exact finc
    | exact ⟨⟨trivial, rfl, fun i _ => Dat.hok _⟩, ⟨trivial, rfl, fun i _ => Dat.hok _⟩, hp'⟩
    | exact ⟨⟨trivial, rfl, fun i _ => Dat.hok _⟩, hp'.1⟩
    | skip
  refine .un 7 ?_
  cbv
  repeat' first | (show Stp _; exfalso; first | omega | (exact h ‹_›) | (exact absurd ‹_› h) | (exact Bool.false_ne_true (h.symm.trans (show _ = true by assumption)))) | (refine Stp.mk ?_; cbv) | (refine Gen.mk fun r hr => ?_; (try simp only [Dat.ok, Dat.dec, Leaf.ok, Leaf.val, Span.eta, Set.eta, val_sl, val_nil] at hr); cbv) | exact trivial | rfl | refine Both.mk ?_ ?_ | (refine Imp.mk fun h => ?_; (try dsimp only at h); (try simp only [nc, Int.toNat_natCast, Bool.not_eq_true', Bool.not_eq_false', decide_eq_true_eq, decide_eq_false_iff_not, beq_iff_eq, beq_eq_false_iff_ne, ba_inj, bne_iff_ne, ne_eq, Bool.and_eq_true, Bool.or_eq_true, Bool.and_eq_false_iff, Bool.or_eq_false_iff, Int.not_le, Int.not_lt, Nat.not_le, Nat.not_lt] at h); (try simp only [nc] at h)) | refine Ob.mk ?_ ?_ | refine Chk.mk (by kernel_rfl) ?_ | refine Eq'.mk ?_ | (refine AllN.mk fun i hi => ?_; cbv) | (refine AllS.mk fun r hr => ?_; (try simp only [Dat.ok, Dat.dec, Leaf.ok, Leaf.val, Span.eta, Set.eta, val_sl] at hr); cbv)
  all_goals ((try dsimp only at *); (try simp only [nc, Int.toNat_natCast, Bool.not_eq_true', Bool.not_eq_false', decide_eq_true_eq, decide_eq_false_iff_not, beq_iff_eq, beq_eq_false_iff_ne, ba_inj, bne_iff_ne, ne_eq, Bool.and_eq_true, Bool.or_eq_true, Bool.and_eq_false_iff, Bool.or_eq_false_iff, Int.not_le, Int.not_lt, Nat.not_le, Nat.not_lt] at *); (try simp only [nc] at *))
  all_goals try simp only [Dat.ok, Dat.dec, Leaf.ok, Leaf.val, Span.eta, Set.eta, val_sl] at *
  all_goals obtain ⟨x1, x2, x3, x4, x5, k1, k2, k3, k4, k5, s1, s2, b1, b2, b3, b4, b5⟩ := mea_law (show (bothP a b).2 = 0 by assumption) (show (eitherP a b).2 = 0 by assumption) (show (notP a).2 = 0 by assumption) (show 0 ≤ frm by assumption) (show frm ≤ to by assumption) (by assumption)
  all_goals try simp only [k1, k2, k3, k4, k5] at *
  all_goals first
    | omega
    | (unfold InR; omega)
    | exact ⟨⟨trivial, rfl, fun i _ => Dat.hok _⟩, (by first | exact hp'.1 | exact hp'.2 | exact Nat.le_trans (notP_len _) (by decide) | exact Nat.le_trans (bothP_len _ _) (by decide) | exact Nat.le_trans (eithP_len _ _) (by decide))⟩
    | (exfalso; exact absurd trivial (by assumption))
    | (exfalso; omega)
    | (refine fin ?_; simp; omega)
    | fail
section
open Go.ChangeShapes Go.WideShapes Go.ChangeAt Go.RowKit Go.Joins Go.Deep
set_option linter.unusedVariables false
theorem smea_own : ownKnob Try.prog.godebug = none := by kernel_rfl
theorem smea_laidOut : laidOutB Try.prog = true := by kernel_rfl
theorem smea_readOk {ts : Array TypeId} (h : ts.toList.all (fun t => Try.prog.readableRec t && decide (t < Try.prog.types.size)) = true) : ∀ t ∈ ts.toList, Try.prog.readableRec t = true ∧ t < Try.prog.types.size := fun t ht => by
  have := List.all_eq_true.1 h t ht
  simpa using this
mutual
theorem smea_bD {H : Type} : ∀ d : DataW H, Rows.uptoBulk d = bulkD d
  | .lit l => by cases l <;> simp [Rows.uptoBulk, bulkD]
  | .nil => by simp [Rows.uptoBulk, bulkD]
  | .ptr d => by simp [Rows.uptoBulk, bulkD, smea_bD d]
  | .slice a b => by simp [Rows.uptoBulk, bulkD, smea_bL a, smea_bL b]
  | .agg a => by simp [Rows.uptoBulk, bulkD, smea_bL a]
  | .iface _ d => by simp [Rows.uptoBulk, bulkD, smea_bD d]
  | .map e => by simp [Rows.uptoBulk, bulkD, smea_bE e]
  | .held _ => by simp [Rows.uptoBulk, bulkD]
theorem smea_bL {H : Type} : ∀ d : List (DataW H), Rows.uptoBulkAll d = bulkL d
  | [] => by simp [Rows.uptoBulkAll, bulkL]
  | d :: r => by simp [Rows.uptoBulkAll, bulkL, smea_bD d, smea_bL r]
theorem smea_bE {H : Type} : ∀ d : List (Lit × DataW H), Rows.uptoBulkEntries d = bulkE d
  | [] => by simp [Rows.uptoBulkEntries, bulkE]
  | d :: r => by simp [Rows.uptoBulkEntries, bulkE, smea_bX d, smea_bE r]
theorem smea_bX {H : Type} : ∀ d : Lit × DataW H, Rows.uptoBulkEntry d = bulkX d
  | (l, d) => by cases l <;> simp [Rows.uptoBulkEntry, bulkX, smea_bD d]
end
set_option maxRecDepth 100000 in
theorem smea_lifted (os : Os) (started : os.Started) (H : Type) (enc : TypeId × Value → H) (F : Stop.Interp) :
    ReturnsInHanded {} Try.checked os 13 .any ((Rows.OpenSpec.upto Rows.spanMeasureSpec).pre6 enc Try.prog Try.f13 Rows.spanMeasureUptoRow.domain false) (((Rows.OpenSpec.upto Rows.spanMeasureSpec).at F).post enc Try.prog Try.f13 false true false false) := by
  refine returnsInHanded_of_cond (C := Try.checked) (s := Rows.OpenSpec.upto Rows.spanMeasureSpec) (k := Rows.uptoSmall) rfl smea_own started (by kernel_rfl) Try.func13
    (OpenSpec.witness (enc := enc) (C := Try.checked) (s := Rows.OpenSpec.upto Rows.spanMeasureSpec) (k := Rows.uptoSmall) rfl false ⟨#[], #[.agg #[.int .i64 0, .slice none 0 0], .agg #[.int .i64 0, .slice none 0 0], .int .i64 0, .int .i64 0], []⟩ 8 (by kernel_rfl) (by kernel_rfl) (by kernel_rfl)
      (x := ([.agg [.lit (.int .i64 0), .nil], .agg [.lit (.int .i64 0), .nil], .lit (.int .i64 0), .lit (.int .i64 0)], [], [])) (by kernel_rfl) rfl (by kernel_rfl)) ?_
  intro W base args ds gs before hval0 hW _ hk _
  show Calls Try.prog 13 args W fun e W' => ∃ v, e = .returned v ∧ Rows.spanMeasureSpec.post enc Try.prog Try.f13 false true false false W args v W'
  have hval : ∀ (j : Nat) t v, Try.f13.params[j]? = some t → args[j]? = some v → Value.okWide Try.prog W .any base t v := hval0
  have hW' := hW
  have hlt := hW.lt
  obtain ⟨p, q, hA0, hV, rfl, hfz, hnd⟩ := hW
  have hA : DataW.TrodAll enc Try.prog W 0 (fun _ => true) true Try.f13.params.toList args.toList ds p := hA0
  have hA1 := hA
  rw [Try.params13] at hA hval
  obtain ⟨v0, vs0, d0, ds0, p0, q0, hargs, rfl, rfl, h0, r0⟩ := trodAll_cons hA
  obtain ⟨v1, vs1, d1, ds1, p1, q1, rfl, rfl, rfl, h1, r1⟩ := trodAll_cons r0
  obtain ⟨v2, vs2, d2, ds2, p2, q2, rfl, rfl, rfl, h2, r2⟩ := trodAll_cons r1
  obtain ⟨v3, vs3, d3, ds3, p3, q3, rfl, rfl, rfl, h3, r3⟩ := trodAll_cons r2
  obtain ⟨rfl, rfl, rfl⟩ := trodAll_nil r3
  obtain rfl : args = #[v0, v1, v2, v3] := by cases args; simp_all
  obtain ⟨rfl, rfl⟩ := trodVars_none hV
  obtain ⟨cs0, rfl, _⟩ := okWide_struct Try.underlying24 (hval 0 24 v0 rfl rfl)
  obtain ⟨y0, u0, b0, e0⟩ := arg_agg (α := Set) opn_Set h0
  obtain ⟨cs1, rfl, _⟩ := okWide_struct Try.underlying24 (hval 1 24 v1 rfl rfl)
  obtain ⟨y1, u1, b1, e1⟩ := arg_agg (α := Set) opn_Set h1
  obtain ⟨z2, rfl⟩ := okWide_int Try.underlying3 (hval 2 3 v2 rfl rfl)
  obtain ⟨y2, u2, b2, e2⟩ := arg_leaf (α := Int) (opn_int Try.underlying3) rfl h2
  obtain ⟨z3, rfl⟩ := okWide_int Try.underlying3 (hval 3 3 v3 rfl rfl)
  obtain ⟨y3, u3, b3, e3⟩ := arg_leaf (α := Int) (opn_int Try.underlying3) rfl h3
  have hB : Siz.bulk y0 + Siz.bulk y1 + Siz.bulk y2 + Siz.bulk y3 ≤ 1048576 := by
    have h := of_decide_eq_true hk
    rw [smea_bL] at h
    simp only [List.append_nil, bulkL] at h
    omega
  have hR := repL_cons (M := fun _ => False) (β := fun _ => none) (cp := fun _ => 0) (.c e0) (repL_cons (M := fun _ => False) (β := fun _ => none) (cp := fun _ => 0) (.c e1) (repL_cons (M := fun _ => False) (β := fun _ => none) (cp := fun _ => 0) (.c e2) (repL_cons (M := fun _ => False) (β := fun _ => none) (cp := fun _ => 0) (.c e3) (repL_nil))))
  refine (law_callsA (smea_vc y0 y1 y2 y3 u0 u1 u2 u3 hB) hR).mono fun e W' ⟨he, bel⟩ => ?_
  subst he
  exact ⟨_, rfl, _, _, _, [], _, [], hW', trodAll_mk1 (shut_bool Try.underlying4 _), trodAll_below smea_laidOut bel (smea_readOk (by kernel_rfl)) (fun x hx => hlt x (List.mem_append_left _ hx)) hA1, rfl, bel.frame _, fun h => by cases h⟩
theorem SpanMeasure_proved : Rows.SpanMeasureUptoSaid :=
  OpenClaim.holds_of_cond 13 Try.f13 rfl rfl rfl rfl rfl rfl rfl ⟨rfl, rfl, rfl, rfl, rfl⟩ rfl rfl rfl rfl rfl (by kernel_rfl) Try.func13 (by kernel_rfl)
    (of_decide_eq_true (by kernel_rfl)) (by unfold Func.isWrapper; first | (rw [if_pos (by decide +kernel)]; kernel_rfl) | (rw [if_neg (by decide +kernel)]; exact ⟨rfl, rfl⟩))
    (fun os started H enc _ F => smea_lifted os started H enc F)
end

end Go.Proofs.Ytmicojghbhhblaa
