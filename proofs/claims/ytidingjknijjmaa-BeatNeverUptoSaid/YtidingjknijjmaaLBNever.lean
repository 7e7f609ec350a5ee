/- Nobody that beats in time is doubted. -/
import Derived.Test.YtidingjknijjmaaBeatR
set_option linter.all false
namespace Go.Proofs.Ytidingjknijjmaa
open Go Go.Abs

structure NvX (delays : List Int) (most : Int) where
  k : Nat
  hk : k ≤ delays.length
  ha : ∀ j : Nat, j < k → 0 ≤ delays.getD j Dat.d0 ∧ delays.getD j Dat.d0 ≤ most
noncomputable def cBN0 : FuncId → Con := fun f => match f with
  | 11 => inlCon E noCon noDraws [0, 1, 3] Try.f11
  | _ => fun _ _ _ => Bad 1001
theorem cBN0_ok : ConOk Try.prog cBN0 := fun f A H K h => by
  unfold cBN0 at h
  split at h
  · exact ⟨⟨Try.f11, Try.func11, by kernel_rfl, by kernel_rfl⟩, inl_ok envOk zl noCon_ok noDraws_ok Try.func11 h⟩
  · cases h
noncomputable def cBN1 : FuncId → Con := fun f => match f with
  | 22 => inlCon E cBN0 noDraws [0, 1, 4, 5, 7, 8, 9, 16] Try.f22
  | _ => fun _ _ _ => Bad 1001
theorem cBN1_ok : ConOk Try.prog cBN1 := fun f A H K h => by
  unfold cBN1 at h
  split at h
  · exact ⟨⟨Try.f22, Try.func22, by kernel_rfl, by kernel_rfl⟩, inl_ok envOk zl cBN0_ok noDraws_ok Try.func22 h⟩
  · cases h
noncomputable def cBN : FuncId → Con := fun f => match f with
  | 7 => frCon heardF_D
  | 9 => frCon doubtF_D
  | 8 => pureCon (detPC blives_D)
  | 10 => inlCon E cBN1 noDraws [0, 1, 4] Try.f10
  | _ => fun _ _ _ => Bad 1001
theorem cBN_ok : ConOk Try.prog cBN := fun f A H K h => by
  unfold cBN at h
  split at h
  · exact ⟨⟨Try.f7, Try.func7, by kernel_rfl, by kernel_rfl⟩, frCon_ok heardF_okF h⟩
  · exact ⟨⟨Try.f9, Try.func9, by kernel_rfl, by kernel_rfl⟩, frCon_ok doubtF_okF h⟩
  · exact ⟨⟨Try.f8, Try.func8, by kernel_rfl, by kernel_rfl⟩, pureCon_ok blives_ok h⟩
  · exact ⟨⟨Try.f10, Try.func10, by kernel_rfl, by kernel_rfl⟩, inl_ok envOk zl cBN1_ok noDraws_ok Try.func10 h⟩
  · cases h
def dBN : FuncId → Option Dt := fun f => match f with
  | 7 => some (.f heardF_D)
  | _ => none
theorem dBN_ok : DetOk Try.prog dBN := fun f d h => by
  unfold dBN at h
  split at h
  · cases h; exact ⟨⟨Try.f7, Try.func7, by kernel_rfl, by kernel_rfl⟩, heardF_okF⟩
  · cases h
set_option maxRecDepth 100000 in
set_option maxHeartbeats 4000000 in
theorem bnever_vc (every : Int) (delays : (List Int)) (most : Int) (u : Int) (fit_every : Siz.fit every) (fit_delays : Siz.fit delays) (fit_most : Siz.fit most) (fit_u : Siz.fit u) (hB : Siz.bulk every + Siz.bulk delays + Siz.bulk most + Siz.bulk u ≤ 1048576) : FnOk Try.prog 4 [.i .i64 fun _ => every, Leaf.av fun _ => delays, .i .i64 fun _ => most, .i .i64 fun _ => u] [] (outA (.bc true) []) := by
  refine fn_ok envOk zl cBN_ok (draws_ok envOk zl dBN_ok mixed) (keep := [0, 1, 2, 3, 6, 8, 9, 10, 11, 12, 37]) Try.func4 rfl ?_
  have fin := @fin_b
  have finc := @fin_t
  have hp' : delays.length ≤ 1048576 := by
    have h1 := bulk_len (α := Int) (fun _ => Nat.le_add_left _ _) delays
    simp only [Siz.bulk] at hB h1
    omega
  generalize outA (.bc true) [] = K at fin finc
  cbv
  repeat' first | (show Stp _; exfalso; first | omega | (exact h ‹_›) | (exact absurd ‹_› h) | (exact Bool.false_ne_true (h.symm.trans (show _ = true by assumption)))) | (refine Stp.mk ?_; cbv) | (refine Gen.mk fun r hr => ?_; (try simp only [Dat.ok, Dat.dec, Leaf.ok, Leaf.val, Span.eta, val_sl, val_nil] at hr); cbv) | exact trivial | rfl | refine Both.mk ?_ ?_ | (refine Imp.mk fun h => ?_; (try dsimp only at h); (try simp only [nc, Int.toNat_natCast, Bool.not_eq_true', Bool.not_eq_false', decide_eq_true_eq, decide_eq_false_iff_not, beq_iff_eq, beq_eq_false_iff_ne, ba_inj, bne_iff_ne, ne_eq, Bool.and_eq_true, Bool.or_eq_true, Bool.and_eq_false_iff, Bool.or_eq_false_iff, Int.not_le, Int.not_lt, Nat.not_le, Nat.not_lt] at h); (try simp only [nc] at h)) | refine Ob.mk ?_ ?_ | refine Chk.mk (by kernel_rfl) ?_ | refine Eq'.mk ?_ | (refine AllN.mk fun i hi => ?_; cbv) | (refine AllS.mk fun r hr => ?_; (try simp only [Dat.ok, Dat.dec, Leaf.ok, Leaf.val, Span.eta, val_sl] at hr); cbv)
  all_goals ((try dsimp only at *); (try simp only [nc, Int.toNat_natCast, Bool.not_eq_true', Bool.not_eq_false', decide_eq_true_eq, decide_eq_false_iff_not, beq_iff_eq, beq_eq_false_iff_ne, ba_inj, bne_iff_ne, ne_eq, Bool.and_eq_true, Bool.or_eq_true, Bool.and_eq_false_iff, Bool.or_eq_false_iff, Int.not_le, Int.not_lt, Nat.not_le, Nat.not_lt] at *); (try simp only [nc] at *))
  all_goals try simp only [Dat.ok, Dat.dec, Leaf.ok, Leaf.val, Span.eta, val_sl] at *
  all_goals first
    | exact finc
    | exact ⟨rfl, fun i _ => Dat.hok _⟩
    | skip
  all_goals try trivial
  have hH := heard_ok (every := every) (delays := delays) (ends := 1000000) (by assumption)
  refine LoopVC.frame [4, 5, 8, 9, 16] (NvX delays most) (fun x => [(8, .i .i64 fun _ => x.k)]) (fun _ => []) [] (fun x => delays.length - x.k) ⟨0, Nat.zero_le _, fun j hj => by omega⟩ rfl (fun _ => rfl) ?_ ?_ fun ⟨k, hk, ha⟩ => ?_
  · cbv
    repeat' first | (refine Stp.mk ?_; cbv) | (refine Gen.mk fun r hr => ?_; (try simp only [Dat.ok, Dat.dec, Leaf.ok, Leaf.val, Span.eta, val_sl, val_nil] at hr); cbv) | exact trivial | rfl | refine Both.mk ?_ ?_ | (refine Imp.mk fun h => ?_; (try dsimp only at h); (try simp only [nc, Int.toNat_natCast, Bool.not_eq_true', Bool.not_eq_false', decide_eq_true_eq, decide_eq_false_iff_not, beq_iff_eq, beq_eq_false_iff_ne, ba_inj, bne_iff_ne, ne_eq, Bool.and_eq_true, Bool.or_eq_true, Bool.and_eq_false_iff, Bool.or_eq_false_iff, Int.not_le, Int.not_lt, Nat.not_le, Nat.not_lt] at h); (try simp only [nc] at h)) | refine Ob.mk ?_ ?_ | refine Chk.mk (by kernel_rfl) ?_ | refine Eq'.mk ?_ | (refine AllN.mk fun i hi => ?_; cbv) | (refine AllS.mk fun r hr => ?_; (try simp only [Dat.ok, Dat.dec, Leaf.ok, Leaf.val, Span.eta, val_sl] at hr); cbv)
  · cbv
    repeat' first | (refine Stp.mk ?_; cbv) | (refine Gen.mk fun r hr => ?_; (try simp only [Dat.ok, Dat.dec, Leaf.ok, Leaf.val, Span.eta, val_sl, val_nil] at hr); cbv) | exact trivial | rfl | refine Both.mk ?_ ?_ | (refine Imp.mk fun h => ?_; (try dsimp only at h); (try simp only [nc, Int.toNat_natCast, Bool.not_eq_true', Bool.not_eq_false', decide_eq_true_eq, decide_eq_false_iff_not, beq_iff_eq, beq_eq_false_iff_ne, ba_inj, bne_iff_ne, ne_eq, Bool.and_eq_true, Bool.or_eq_true, Bool.and_eq_false_iff, Bool.or_eq_false_iff, Int.not_le, Int.not_lt, Nat.not_le, Nat.not_lt] at h); (try simp only [nc] at h)) | refine Ob.mk ?_ ?_ | refine Chk.mk (by kernel_rfl) ?_ | refine Eq'.mk ?_ | (refine AllN.mk fun i hi => ?_; cbv) | (refine AllS.mk fun r hr => ?_; (try simp only [Dat.ok, Dat.dec, Leaf.ok, Leaf.val, Span.eta, val_sl] at hr); cbv)
  · obtain ⟨e1, e2, n0, n1, hlen, hok, hmem, hrise, hml⟩ := hH
    have hnn : 0 ≤ (delays.length : Int) * every ∧ (delays.length : Int) * every ≤ (delays.length : Int) * 10000 := ⟨Int.mul_nonneg (by omega) (by omega), Int.mul_le_mul_of_nonneg_left (by omega) (by omega)⟩
    cbv
    repeat' first | (show Stp _; exfalso; first | omega | (exact h ‹_›) | (exact absurd ‹_› h) | (exact Bool.false_ne_true (h.symm.trans (show _ = true by assumption)))) | (refine Stp.mk ?_; cbv) | (refine Gen.mk fun r hr => ?_; (try simp only [Dat.ok, Dat.dec, Leaf.ok, Leaf.val, Span.eta, val_sl, val_nil] at hr); cbv) | exact trivial | rfl | refine Both.mk ?_ ?_ | (refine Imp.mk fun h => ?_; (try dsimp only at h); (try simp only [nc, Int.toNat_natCast, Bool.not_eq_true', Bool.not_eq_false', decide_eq_true_eq, decide_eq_false_iff_not, beq_iff_eq, beq_eq_false_iff_ne, ba_inj, bne_iff_ne, ne_eq, Bool.and_eq_true, Bool.or_eq_true, Bool.and_eq_false_iff, Bool.or_eq_false_iff, Int.not_le, Int.not_lt, Nat.not_le, Nat.not_lt] at h); (try simp only [nc] at h)) | refine Ob.mk ?_ ?_ | refine Chk.mk (by kernel_rfl) ?_ | refine Eq'.mk ?_ | (refine AllN.mk fun i hi => ?_; cbv) | (refine AllS.mk fun r hr => ?_; (try simp only [Dat.ok, Dat.dec, Leaf.ok, Leaf.val, Span.eta, val_sl] at hr); cbv)
    all_goals ((try dsimp only at *); (try simp only [nc, Int.toNat_natCast, Bool.not_eq_true', Bool.not_eq_false', decide_eq_true_eq, decide_eq_false_iff_not, beq_iff_eq, beq_eq_false_iff_ne, ba_inj, bne_iff_ne, ne_eq, Bool.and_eq_true, Bool.or_eq_true, Bool.and_eq_false_iff, Bool.or_eq_false_iff, Int.not_le, Int.not_lt, Nat.not_le, Nat.not_lt] at *); (try simp only [nc] at *))
    all_goals try simp only [Dat.ok, Dat.dec, Leaf.ok, Leaf.val, Span.eta, val_sl] at *
    all_goals try rw [nc] at *
    all_goals first
      | exact finc
      | omega
      | (unfold InR; omega)
      | exact ⟨⟨rfl, fun i _ => Dat.hok _⟩, show _ ≤ _ by omega⟩
      | (refine ⟨⟨k + 1, by omega, fun j hj => by
           by_cases hjk : j < k
           · exact ha j hjk
           · have : j = k := by omega
             subst this
             omega⟩, ?_, ?_, rfl, by (try dsimp only); omega⟩
         · cbv
           repeat' first | (refine Stp.mk ?_; cbv) | (refine Gen.mk fun r hr => ?_; (try simp only [Dat.ok, Dat.dec, Leaf.ok, Leaf.val, Span.eta, val_sl, val_nil] at hr); cbv) | exact trivial | rfl | refine Both.mk ?_ ?_ | (refine Imp.mk fun h => ?_; (try dsimp only at h); (try simp only [nc, Int.toNat_natCast, Bool.not_eq_true', Bool.not_eq_false', decide_eq_true_eq, decide_eq_false_iff_not, beq_iff_eq, beq_eq_false_iff_ne, ba_inj, bne_iff_ne, ne_eq, Bool.and_eq_true, Bool.or_eq_true, Bool.and_eq_false_iff, Bool.or_eq_false_iff, Int.not_le, Int.not_lt, Nat.not_le, Nat.not_lt] at h); (try simp only [nc] at h)) | refine Ob.mk ?_ ?_ | refine Chk.mk (by kernel_rfl) ?_ | refine Eq'.mk ?_ | (refine AllN.mk fun i hi => ?_; cbv) | (refine AllS.mk fun r hr => ?_; (try simp only [Dat.ok, Dat.dec, Leaf.ok, Leaf.val, Span.eta, val_sl] at hr); cbv)
         · cbv
           repeat' first | (refine Stp.mk ?_; cbv) | (refine Gen.mk fun r hr => ?_; (try simp only [Dat.ok, Dat.dec, Leaf.ok, Leaf.val, Span.eta, val_sl, val_nil] at hr); cbv) | exact trivial | rfl | refine Both.mk ?_ ?_ | (refine Imp.mk fun h => ?_; (try dsimp only at h); (try simp only [nc, Int.toNat_natCast, Bool.not_eq_true', Bool.not_eq_false', decide_eq_true_eq, decide_eq_false_iff_not, beq_iff_eq, beq_eq_false_iff_ne, ba_inj, bne_iff_ne, ne_eq, Bool.and_eq_true, Bool.or_eq_true, Bool.and_eq_false_iff, Bool.or_eq_false_iff, Int.not_le, Int.not_lt, Nat.not_le, Nat.not_lt] at h); (try simp only [nc] at h)) | refine Ob.mk ?_ ?_ | refine Chk.mk (by kernel_rfl) ?_ | refine Eq'.mk ?_ | (refine AllN.mk fun i hi => ?_; cbv) | (refine AllS.mk fun r hr => ?_; (try simp only [Dat.ok, Dat.dec, Leaf.ok, Leaf.val, Span.eta, val_sl] at hr); cbv))
      | (refine fin ?_
         have hd := doubts_ok2 (by assumption)
         have hz := beat_never (m := (heardV every delays 1000000).1) (u := if (delays.length : Int) * every < u then (delays.length : Int) * every else u) e1 (show 0 ≤ most by omega) (fun j hj => ha j (by omega)) (by omega) (by split <;> omega) hmem hrise
         rw [hd.2.2.2.2.2.2, hz]
         rfl)
      | fail
section
open Go.ChangeShapes Go.WideShapes Go.ChangeAt Go.RowKit Go.Joins Go.Deep
set_option linter.unusedVariables false
theorem bnever_own : ownKnob Try.prog.godebug = none := by kernel_rfl
theorem bnever_laidOut : laidOutB Try.prog = true := by kernel_rfl
theorem bnever_readOk {ts : Array TypeId} (h : ts.toList.all (fun t => Try.prog.readableRec t && decide (t < Try.prog.types.size)) = true) : ∀ t ∈ ts.toList, Try.prog.readableRec t = true ∧ t < Try.prog.types.size := fun t ht => by
  have := List.all_eq_true.1 h t ht
  simpa using this
mutual
theorem bnever_bD {H : Type} : ∀ d : DataW H, Rows.uptoBulk d = bulkD d
  | .lit l => by cases l <;> simp [Rows.uptoBulk, bulkD]
  | .nil => by simp [Rows.uptoBulk, bulkD]
  | .ptr d => by simp [Rows.uptoBulk, bulkD, bnever_bD d]
  | .slice a b => by simp [Rows.uptoBulk, bulkD, bnever_bL a, bnever_bL b]
  | .agg a => by simp [Rows.uptoBulk, bulkD, bnever_bL a]
  | .iface _ d => by simp [Rows.uptoBulk, bulkD, bnever_bD d]
  | .map e => by simp [Rows.uptoBulk, bulkD, bnever_bE e]
  | .held _ => by simp [Rows.uptoBulk, bulkD]
theorem bnever_bL {H : Type} : ∀ d : List (DataW H), Rows.uptoBulkAll d = bulkL d
  | [] => by simp [Rows.uptoBulkAll, bulkL]
  | d :: r => by simp [Rows.uptoBulkAll, bulkL, bnever_bD d, bnever_bL r]
theorem bnever_bE {H : Type} : ∀ d : List (Lit × DataW H), Rows.uptoBulkEntries d = bulkE d
  | [] => by simp [Rows.uptoBulkEntries, bulkE]
  | d :: r => by simp [Rows.uptoBulkEntries, bulkE, bnever_bX d, bnever_bE r]
theorem bnever_bX {H : Type} : ∀ d : Lit × DataW H, Rows.uptoBulkEntry d = bulkX d
  | (l, d) => by cases l <;> simp [Rows.uptoBulkEntry, bulkX, bnever_bD d]
end
set_option maxRecDepth 100000 in
theorem bnever_lifted (os : Os) (started : os.Started) (H : Type) (enc : TypeId × Value → H) (F : Stop.Interp) :
    ReturnsInHanded {} Try.checked os 4 .any ((Rows.OpenSpec.upto Rows.beatNeverSpec).pre6 enc Try.prog Try.f4 Rows.beatNeverUptoRow.domain false) (((Rows.OpenSpec.upto Rows.beatNeverSpec).at F).post enc Try.prog Try.f4 false true false false) := by
  refine returnsInHanded_of_cond (C := Try.checked) (s := Rows.OpenSpec.upto Rows.beatNeverSpec) (k := Rows.uptoSmall) rfl bnever_own started (by kernel_rfl) Try.func4
    (OpenSpec.witness (enc := enc) (C := Try.checked) (s := Rows.OpenSpec.upto Rows.beatNeverSpec) (k := Rows.uptoSmall) rfl false ⟨#[], #[.int .i64 0, .slice none 0 0, .int .i64 0, .int .i64 0], []⟩ 8 (by kernel_rfl) (by kernel_rfl) (by kernel_rfl)
      (x := ([.lit (.int .i64 0), .nil, .lit (.int .i64 0), .lit (.int .i64 0)], [], [])) (by kernel_rfl) rfl (by kernel_rfl)) ?_
  intro W base args ds gs before hval0 hW _ hk _
  show Calls Try.prog 4 args W fun e W' => ∃ v, e = .returned v ∧ Rows.beatNeverSpec.post enc Try.prog Try.f4 false true false false W args v W'
  have hval : ∀ (j : Nat) t v, Try.f4.params[j]? = some t → args[j]? = some v → Value.okWide Try.prog W .any base t v := hval0
  have hW' := hW
  have hlt := hW.lt
  obtain ⟨p, q, hA0, hV, rfl, hfz, hnd⟩ := hW
  have hA : DataW.TrodAll enc Try.prog W 0 (fun _ => true) true Try.f4.params.toList args.toList ds p := hA0
  have hA1 := hA
  rw [Try.params4] at hA hval
  obtain ⟨v0, vs0, d0, ds0, p0, q0, hargs, rfl, rfl, h0, r0⟩ := trodAll_cons hA
  obtain ⟨v1, vs1, d1, ds1, p1, q1, rfl, rfl, rfl, h1, r1⟩ := trodAll_cons r0
  obtain ⟨v2, vs2, d2, ds2, p2, q2, rfl, rfl, rfl, h2, r2⟩ := trodAll_cons r1
  obtain ⟨v3, vs3, d3, ds3, p3, q3, rfl, rfl, rfl, h3, r3⟩ := trodAll_cons r2
  obtain ⟨rfl, rfl, rfl⟩ := trodAll_nil r3
  obtain rfl : args = #[v0, v1, v2, v3] := by cases args; simp_all
  obtain ⟨rfl, rfl⟩ := trodVars_none hV
  obtain ⟨z0, rfl⟩ := okWide_int Try.underlying3 (hval 0 3 v0 rfl rfl)
  obtain ⟨y0, u0, b0, e0⟩ := arg_leaf (α := Int) (opn_int Try.underlying3) rfl h0
  obtain ⟨z1, z'1, z''1, rfl⟩ := okWide_slice Try.underlying22 (hval 1 22 v1 rfl rfl)
  obtain ⟨y1, u1, b1, e1⟩ := arg_leaf (α := (List Int)) (opn_slice Try.underlying22 (by kernel_rfl) (by decide) (opn_int Try.underlying3)) rfl h1
  obtain ⟨z2, rfl⟩ := okWide_int Try.underlying3 (hval 2 3 v2 rfl rfl)
  obtain ⟨y2, u2, b2, e2⟩ := arg_leaf (α := Int) (opn_int Try.underlying3) rfl h2
  obtain ⟨z3, rfl⟩ := okWide_int Try.underlying3 (hval 3 3 v3 rfl rfl)
  obtain ⟨y3, u3, b3, e3⟩ := arg_leaf (α := Int) (opn_int Try.underlying3) rfl h3
  have hB : Siz.bulk y0 + Siz.bulk y1 + Siz.bulk y2 + Siz.bulk y3 ≤ 1048576 := by
    have h := of_decide_eq_true hk
    rw [bnever_bL] at h
    simp only [List.append_nil, bulkL] at h
    omega
  have hR := repL_cons (M := fun _ => False) (β := fun _ => none) (cp := fun _ => 0) (.c e0) (repL_cons (M := fun _ => False) (β := fun _ => none) (cp := fun _ => 0) (.c e1) (repL_cons (M := fun _ => False) (β := fun _ => none) (cp := fun _ => 0) (.c e2) (repL_cons (M := fun _ => False) (β := fun _ => none) (cp := fun _ => 0) (.c e3) (repL_nil))))
  refine (law_callsA (bnever_vc y0 y1 y2 y3 u0 u1 u2 u3 hB) hR).mono fun e W' ⟨he, bel⟩ => ?_
  subst he
  exact ⟨_, rfl, _, _, _, [], _, [], hW', trodAll_mk1 (shut_bool Try.underlying4 _), trodAll_below bnever_laidOut bel (bnever_readOk (by kernel_rfl)) (fun x hx => hlt x (List.mem_append_left _ hx)) hA1, rfl, bel.frame _, fun h => by cases h⟩
theorem BeatNever_proved : Rows.BeatNeverUptoSaid :=
  OpenClaim.holds_of_cond 4 Try.f4 rfl rfl rfl rfl rfl rfl rfl ⟨rfl, rfl, rfl, rfl, rfl⟩ rfl rfl rfl rfl rfl (by kernel_rfl) Try.func4 (by kernel_rfl)
    (of_decide_eq_true (by kernel_rfl)) (by unfold Func.isWrapper; first | (rw [if_pos (by decide +kernel)]; kernel_rfl) | (rw [if_neg (by decide +kernel)]; exact ⟨rfl, rfl⟩))
    (fun os started H enc _ F => bnever_lifted os started H enc F)
end

end Go.Proofs.Ytidingjknijjmaa
