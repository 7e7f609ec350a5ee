/- Whoever is there no more is doubted for ever. -/
import Derived.Test.YtidingjknijjmaaBeatR
set_option linter.all false
namespace Go.Proofs.Ytidingjknijjmaa
open Go Go.Abs

structure SoX (delays : List Int) (ends limit : Int) where
  k : Nat
  q : Int
  hk : k ≤ delays.length
  hq : 0 ≤ limit → limit ≤ 1000000 → ends + limit ≤ q ∧ ∀ j : Nat, j < k → ends + delays.getD j Dat.d0 + limit ≤ q
noncomputable def cBS : FuncId → Con := fun f => match f with
  | 7 => frCon heardF_D
  | 9 => frCon doubtF_D
  | 8 => pureCon (detPC blives_D)
  | _ => fun _ _ _ => Bad 1001
theorem cBS_ok : ConOk Try.prog cBS := fun f A H K h => by
  unfold cBS at h
  split at h
  · exact ⟨⟨Try.f7, Try.func7, by kernel_rfl, by kernel_rfl⟩, frCon_ok heardF_okF h⟩
  · exact ⟨⟨Try.f9, Try.func9, by kernel_rfl, by kernel_rfl⟩, frCon_ok doubtF_okF h⟩
  · exact ⟨⟨Try.f8, Try.func8, by kernel_rfl, by kernel_rfl⟩, pureCon_ok blives_ok h⟩
  · cases h
def dBS : FuncId → Option Dt := fun f => match f with
  | 7 => some (.f heardF_D)
  | _ => none
theorem dBS_ok : DetOk Try.prog dBS := fun f d h => by
  unfold dBS at h
  split at h
  · cases h; exact ⟨⟨Try.f7, Try.func7, by kernel_rfl, by kernel_rfl⟩, heardF_okF⟩
  · cases h
set_option maxRecDepth 100000 in
set_option maxHeartbeats 4000000 in
theorem bsoon_vc (every : Int) (delays : (List Int)) (ends : Int) (limit : Int) (t : Int) (fit_every : Siz.fit every) (fit_delays : Siz.fit delays) (fit_ends : Siz.fit ends) (fit_limit : Siz.fit limit) (fit_t : Siz.fit t) (hB : Siz.bulk every + Siz.bulk delays + Siz.bulk ends + Siz.bulk limit + Siz.bulk t ≤ 1048576) : FnOk Try.prog 3 [.i .i64 fun _ => every, Leaf.av fun _ => delays, .i .i64 fun _ => ends, .i .i64 fun _ => limit, .i .i64 fun _ => t] [] (outA (.bc true) []) := by
  refine fn_ok (envOkW [34,46]) (zlW [34,46]) cBS_ok (draws_ok (envOkW [34,46]) (zlW [34,46]) dBS_ok mixed) (keep := [0, 1, 2, 3, 4, 10, 11, 12, 13, 15, 16, 17, 30, 35, 36, 37, 38, 63]) Try.func3 rfl ?_
  have fin := @fin_b
  have finc := @fin_t
  have hp' : delays.length ≤ 1048576 := by
    have h1 := bulk_len (α := Int) (fun _ => Nat.le_add_left _ _) delays
    simp only [Siz.bulk] at hB h1
    omega
  generalize outA (.bc true) [] = K at fin finc
  cbv
  repeat' first | (show Stp _; exfalso; first | omega | (exact h ‹_›) | (exact absurd ‹_› h) | (exact Bool.false_ne_true (h.symm.trans (show _ = true by assumption)))) | (refine Stp.mk ?_; cbv) | (refine Gen.mk fun r hr => ?_; (try simp only [Dat.ok, Dat.dec, Leaf.ok, Leaf.val, Span.eta, val_sl, val_nil] at hr); cbv) | exact trivial | rfl | refine Both.mk ?_ ?_ | (refine Imp.mk fun h => ?_; (try dsimp only at h); (try simp only [nc, Int.toNat_natCast, Bool.not_eq_true', Bool.not_eq_false', decide_eq_true_eq, decide_eq_false_iff_not, beq_iff_eq, beq_eq_false_iff_ne, ba_inj, bne_iff_ne, ne_eq, Bool.and_eq_true, Bool.or_eq_true, Bool.and_eq_false_iff, Bool.or_eq_false_iff, Int.not_le, Int.not_lt, Nat.not_le, Nat.not_lt] at h); (try simp only [nc] at h)) | refine Ob.mk ?_ ?_ | refine Chk.mk (by kernel_rfl) ?_ | refine Eq'.mk ?_ | (refine AllN.mk fun i hi => ?_; cbv) | (refine AllS.mk fun r hr => ?_; (try simp only [Dat.ok, Dat.dec, Leaf.ok, Leaf.val, Span.eta, val_sl] at hr); cbv)
  all_goals ((try dsimp only at *); (try simp only [nc, Int.toNat_natCast, Bool.not_eq_true', Bool.not_eq_false', decide_eq_true_eq, decide_eq_false_iff_not, beq_iff_eq, beq_eq_false_iff_ne, ba_inj, bne_iff_ne, ne_eq, Bool.and_eq_true, Bool.or_eq_true, Bool.and_eq_false_iff, Bool.or_eq_false_iff, Int.not_le, Int.not_lt, Nat.not_le, Nat.not_lt] at *); (try simp only [nc] at *))
  all_goals try simp only [Dat.ok, Dat.dec, Leaf.ok, Leaf.val, Span.eta, val_sl] at *
  all_goals first
    | exact finc
    | exact ⟨rfl, fun i _ => Dat.hok _⟩
    | skip
  all_goals try trivial
  have hH := heard_ok (every := every) (delays := delays) (ends := ends) (by assumption)
  have hH2 := hH
  obtain ⟨e1, e2, n0, n1, hlen, hok, hmem, hrise, hml⟩ := hH
  have w0 : 0 ≤ limit → limit ≤ 1000000 → IntKind.i64.wrap (ends + limit) = ends + limit := fun a b => by
    unfold IntKind.wrap
    simp [IntKind.signed, IntKind.bits]
    omega
  have w2 : ∀ z : Int, -1 ≤ z → z ≤ 10000 → 0 ≤ limit → limit ≤ 1000000 → IntKind.i64.wrap (ends + z + limit) = ends + z + limit := fun z z0 z1 a b => by
    unfold IntKind.wrap
    simp [IntKind.signed, IntKind.bits]
    omega
  refine LoopVC.frame [13, 15, 37, 38] (SoX delays ends limit) (fun x => [(37, .i .i64 fun _ => x.k), (13, .i .i64 fun _ => x.q)]) (fun _ => []) [] (fun x => delays.length - x.k) ⟨0, IntKind.i64.wrap (ends + limit), Nat.zero_le _, fun a b => ⟨by rw [w0 a b]; exact Int.le_refl _, fun j hj => by omega⟩⟩ rfl (fun _ => rfl) ?_ ?_ fun ⟨k, q, hk, hq⟩ => ?_
  · cbv
    repeat' first | (refine Stp.mk ?_; cbv) | (refine Gen.mk fun r hr => ?_; (try simp only [Dat.ok, Dat.dec, Leaf.ok, Leaf.val, Span.eta, val_sl, val_nil] at hr); cbv) | exact trivial | rfl | refine Both.mk ?_ ?_ | (refine Imp.mk fun h => ?_; (try dsimp only at h); (try simp only [nc, Int.toNat_natCast, Bool.not_eq_true', Bool.not_eq_false', decide_eq_true_eq, decide_eq_false_iff_not, beq_iff_eq, beq_eq_false_iff_ne, ba_inj, bne_iff_ne, ne_eq, Bool.and_eq_true, Bool.or_eq_true, Bool.and_eq_false_iff, Bool.or_eq_false_iff, Int.not_le, Int.not_lt, Nat.not_le, Nat.not_lt] at h); (try simp only [nc] at h)) | refine Ob.mk ?_ ?_ | refine Chk.mk (by kernel_rfl) ?_ | refine Eq'.mk ?_ | (refine AllN.mk fun i hi => ?_; cbv) | (refine AllS.mk fun r hr => ?_; (try simp only [Dat.ok, Dat.dec, Leaf.ok, Leaf.val, Span.eta, val_sl] at hr); cbv)
  · cbv
    repeat' first | (refine Stp.mk ?_; cbv) | (refine Gen.mk fun r hr => ?_; (try simp only [Dat.ok, Dat.dec, Leaf.ok, Leaf.val, Span.eta, val_sl, val_nil] at hr); cbv) | exact trivial | rfl | refine Both.mk ?_ ?_ | (refine Imp.mk fun h => ?_; (try dsimp only at h); (try simp only [nc, Int.toNat_natCast, Bool.not_eq_true', Bool.not_eq_false', decide_eq_true_eq, decide_eq_false_iff_not, beq_iff_eq, beq_eq_false_iff_ne, ba_inj, bne_iff_ne, ne_eq, Bool.and_eq_true, Bool.or_eq_true, Bool.and_eq_false_iff, Bool.or_eq_false_iff, Int.not_le, Int.not_lt, Nat.not_le, Nat.not_lt] at h); (try simp only [nc] at h)) | refine Ob.mk ?_ ?_ | refine Chk.mk (by kernel_rfl) ?_ | refine Eq'.mk ?_ | (refine AllN.mk fun i hi => ?_; cbv) | (refine AllS.mk fun r hr => ?_; (try simp only [Dat.ok, Dat.dec, Leaf.ok, Leaf.val, Span.eta, val_sl] at hr); cbv)
  · have hok2 := fun h => hok k h
    cbv
    repeat' first | (show Stp _; exfalso; first | omega | (exact h ‹_›) | (exact absurd ‹_› h) | (exact Bool.false_ne_true (h.symm.trans (show _ = true by assumption)))) | (refine Stp.mk ?_; cbv) | (refine Gen.mk fun r hr => ?_; (try simp only [Dat.ok, Dat.dec, Leaf.ok, Leaf.val, Span.eta, val_sl, val_nil] at hr); cbv) | exact trivial | rfl | refine Both.mk ?_ ?_ | (refine Imp.mk fun h => ?_; (try dsimp only at h); (try simp only [nc, Int.toNat_natCast, Bool.not_eq_true', Bool.not_eq_false', decide_eq_true_eq, decide_eq_false_iff_not, beq_iff_eq, beq_eq_false_iff_ne, ba_inj, bne_iff_ne, ne_eq, Bool.and_eq_true, Bool.or_eq_true, Bool.and_eq_false_iff, Bool.or_eq_false_iff, Int.not_le, Int.not_lt, Nat.not_le, Nat.not_lt] at h); (try simp only [nc] at h)) | refine Ob.mk ?_ ?_ | refine Chk.mk (by kernel_rfl) ?_ | refine Eq'.mk ?_ | (refine AllN.mk fun i hi => ?_; cbv) | (refine AllS.mk fun r hr => ?_; (try simp only [Dat.ok, Dat.dec, Leaf.ok, Leaf.val, Span.eta, val_sl] at hr); cbv)
    all_goals ((try dsimp only at *); (try simp only [nc, Int.toNat_natCast, Bool.not_eq_true', Bool.not_eq_false', decide_eq_true_eq, decide_eq_false_iff_not, beq_iff_eq, beq_eq_false_iff_ne, ba_inj, bne_iff_ne, ne_eq, Bool.and_eq_true, Bool.or_eq_true, Bool.and_eq_false_iff, Bool.or_eq_false_iff, Int.not_le, Int.not_lt, Nat.not_le, Nat.not_lt] at *); (try simp only [nc] at *))
    all_goals try simp only [Dat.ok, Dat.dec, Leaf.ok, Leaf.val, Span.eta, val_sl] at *
    all_goals try rw [nc] at *
    all_goals first
      | exact finc
      | omega
      | (unfold InR; omega)
      | exact ⟨⟨rfl, fun i _ => Dat.hok _⟩, show _ ≤ _ by omega⟩
      | skip
    · have hk2 : k < delays.length := by omega
      have ho := hok2 hk2
      have w1 : 0 ≤ limit → limit ≤ 1000000 → IntKind.i64.wrap (ends + delays.getD k Dat.d0 + limit) = ends + delays.getD k Dat.d0 + limit := fun a b => w2 _ ho.1 ho.2 a b
      refine ⟨⟨k + 1, if IntKind.i64.wrap (ends + delays.getD k Dat.d0 + limit) > q then IntKind.i64.wrap (ends + delays.getD k Dat.d0 + limit) else q, by omega, fun a b => ?_⟩, ?_, ?_, rfl, by (try dsimp only); omega⟩
      · obtain ⟨c1, c2⟩ := hq a b
        rw [w1 a b]
        refine ⟨by split <;> omega, fun j hj => ?_⟩
        by_cases hjk : j < k
        · have := c2 j hjk
          split <;> omega
        · have : j = k := by omega
          subst this
          split <;> omega
      · cbv
        repeat' first | (refine Stp.mk ?_; cbv) | (refine Gen.mk fun r hr => ?_; (try simp only [Dat.ok, Dat.dec, Leaf.ok, Leaf.val, Span.eta, val_sl, val_nil] at hr); cbv) | exact trivial | rfl | refine Both.mk ?_ ?_ | (refine Imp.mk fun h => ?_; (try dsimp only at h); (try simp only [nc, Int.toNat_natCast, Bool.not_eq_true', Bool.not_eq_false', decide_eq_true_eq, decide_eq_false_iff_not, beq_iff_eq, beq_eq_false_iff_ne, ba_inj, bne_iff_ne, ne_eq, Bool.and_eq_true, Bool.or_eq_true, Bool.and_eq_false_iff, Bool.or_eq_false_iff, Int.not_le, Int.not_lt, Nat.not_le, Nat.not_lt] at h); (try simp only [nc] at h)) | refine Ob.mk ?_ ?_ | refine Chk.mk (by kernel_rfl) ?_ | refine Eq'.mk ?_ | (refine AllN.mk fun i hi => ?_; cbv) | (refine AllS.mk fun r hr => ?_; (try simp only [Dat.ok, Dat.dec, Leaf.ok, Leaf.val, Span.eta, val_sl] at hr); cbv)
        all_goals first
          | rfl
          | fail
      · cbv
        repeat' first | (refine Stp.mk ?_; cbv) | (refine Gen.mk fun r hr => ?_; (try simp only [Dat.ok, Dat.dec, Leaf.ok, Leaf.val, Span.eta, val_sl, val_nil] at hr); cbv) | exact trivial | rfl | refine Both.mk ?_ ?_ | (refine Imp.mk fun h => ?_; (try dsimp only at h); (try simp only [nc, Int.toNat_natCast, Bool.not_eq_true', Bool.not_eq_false', decide_eq_true_eq, decide_eq_false_iff_not, beq_iff_eq, beq_eq_false_iff_ne, ba_inj, bne_iff_ne, ne_eq, Bool.and_eq_true, Bool.or_eq_true, Bool.and_eq_false_iff, Bool.or_eq_false_iff, Int.not_le, Int.not_lt, Nat.not_le, Nat.not_lt] at h); (try simp only [nc] at h)) | refine Ob.mk ?_ ?_ | refine Chk.mk (by kernel_rfl) ?_ | refine Eq'.mk ?_ | (refine AllN.mk fun i hi => ?_; cbv) | (refine AllS.mk fun r hr => ?_; (try simp only [Dat.ok, Dat.dec, Leaf.ok, Leaf.val, Span.eta, val_sl] at hr); cbv)
    all_goals (
      obtain ⟨c1, c2⟩ := hq (by omega) (by omega)
      obtain ⟨d, p, hs, hpl, hdl⟩ := soon hH2 (by omega) (by omega) ⟨c1, fun j hj => c2 j (by omega)⟩ (by omega) (by omega)
      have hl2 : (d ++ [(⟨p + limit + 1, t + 1⟩ : Span)]).length = d.length + 1 := by simp
      have hg : (d ++ [(⟨p + limit + 1, t + 1⟩ : Span)]).getD (((d.length + 1 : Nat) : Int) - 1).toNat Dat.d0 = ⟨p + limit + 1, t + 1⟩ := by
        rw [show (((d.length + 1 : Nat) : Int) - 1).toNat = d.length by omega]
        simp
      simp only [hs, hl2, hg] at *
      first
        | omega
        | (unfold InR; omega)
        | exact fin (decide_eq_true (by show p + limit + 1 ≤ t; omega))
        | (exfalso; exact h rfl)
        | (exfalso; apply h; trivial)
        | fail)
section
open Go.ChangeShapes Go.WideShapes Go.ChangeAt Go.RowKit Go.Joins Go.Deep
set_option linter.unusedVariables false
theorem bsoon_own : ownKnob Try.prog.godebug = none := by kernel_rfl
theorem bsoon_laidOut : laidOutB Try.prog = true := by kernel_rfl
theorem bsoon_readOk {ts : Array TypeId} (h : ts.toList.all (fun t => Try.prog.readableRec t && decide (t < Try.prog.types.size)) = true) : ∀ t ∈ ts.toList, Try.prog.readableRec t = true ∧ t < Try.prog.types.size := fun t ht => by
  have := List.all_eq_true.1 h t ht
  simpa using this
mutual
theorem bsoon_bD {H : Type} : ∀ d : DataW H, Rows.uptoBulk d = bulkD d
  | .lit l => by cases l <;> simp [Rows.uptoBulk, bulkD]
  | .nil => by simp [Rows.uptoBulk, bulkD]
  | .ptr d => by simp [Rows.uptoBulk, bulkD, bsoon_bD d]
  | .slice a b => by simp [Rows.uptoBulk, bulkD, bsoon_bL a, bsoon_bL b]
  | .agg a => by simp [Rows.uptoBulk, bulkD, bsoon_bL a]
  | .iface _ d => by simp [Rows.uptoBulk, bulkD, bsoon_bD d]
  | .map e => by simp [Rows.uptoBulk, bulkD, bsoon_bE e]
  | .held _ => by simp [Rows.uptoBulk, bulkD]
theorem bsoon_bL {H : Type} : ∀ d : List (DataW H), Rows.uptoBulkAll d = bulkL d
  | [] => by simp [Rows.uptoBulkAll, bulkL]
  | d :: r => by simp [Rows.uptoBulkAll, bulkL, bsoon_bD d, bsoon_bL r]
theorem bsoon_bE {H : Type} : ∀ d : List (Lit × DataW H), Rows.uptoBulkEntries d = bulkE d
  | [] => by simp [Rows.uptoBulkEntries, bulkE]
  | d :: r => by simp [Rows.uptoBulkEntries, bulkE, bsoon_bX d, bsoon_bE r]
theorem bsoon_bX {H : Type} : ∀ d : Lit × DataW H, Rows.uptoBulkEntry d = bulkX d
  | (l, d) => by cases l <;> simp [Rows.uptoBulkEntry, bulkX, bsoon_bD d]
end
set_option maxRecDepth 100000 in
theorem bsoon_lifted (os : Os) (started : os.Started) (H : Type) (enc : TypeId × Value → H) (F : Stop.Interp) :
    ReturnsInHanded {} Try.checked os 3 .any ((Rows.OpenSpec.upto Rows.beatSoonSpec).pre6 enc Try.prog Try.f3 Rows.beatSoonUptoRow.domain false) (((Rows.OpenSpec.upto Rows.beatSoonSpec).at F).post enc Try.prog Try.f3 false true false false) := by
  refine returnsInHanded_of_cond (C := Try.checked) (s := Rows.OpenSpec.upto Rows.beatSoonSpec) (k := Rows.uptoSmall) rfl bsoon_own started (by kernel_rfl) Try.func3
    (OpenSpec.witness (enc := enc) (C := Try.checked) (s := Rows.OpenSpec.upto Rows.beatSoonSpec) (k := Rows.uptoSmall) rfl false ⟨#[], #[.int .i64 0, .slice none 0 0, .int .i64 0, .int .i64 0, .int .i64 0], []⟩ 8 (by kernel_rfl) (by kernel_rfl) (by kernel_rfl)
      (x := ([.lit (.int .i64 0), .nil, .lit (.int .i64 0), .lit (.int .i64 0), .lit (.int .i64 0)], [], [])) (by kernel_rfl) rfl (by kernel_rfl)) ?_
  intro W base args ds gs before hval0 hW _ hk _
  show Calls Try.prog 3 args W fun e W' => ∃ v, e = .returned v ∧ Rows.beatSoonSpec.post enc Try.prog Try.f3 false true false false W args v W'
  have hval : ∀ (j : Nat) t v, Try.f3.params[j]? = some t → args[j]? = some v → Value.okWide Try.prog W .any base t v := hval0
  have hW' := hW
  have hlt := hW.lt
  obtain ⟨p, q, hA0, hV, rfl, hfz, hnd⟩ := hW
  have hA : DataW.TrodAll enc Try.prog W 0 (fun _ => true) true Try.f3.params.toList args.toList ds p := hA0
  have hA1 := hA
  rw [Try.params3] at hA hval
  obtain ⟨v0, vs0, d0, ds0, p0, q0, hargs, rfl, rfl, h0, r0⟩ := trodAll_cons hA
  obtain ⟨v1, vs1, d1, ds1, p1, q1, rfl, rfl, rfl, h1, r1⟩ := trodAll_cons r0
  obtain ⟨v2, vs2, d2, ds2, p2, q2, rfl, rfl, rfl, h2, r2⟩ := trodAll_cons r1
  obtain ⟨v3, vs3, d3, ds3, p3, q3, rfl, rfl, rfl, h3, r3⟩ := trodAll_cons r2
  obtain ⟨v4, vs4, d4, ds4, p4, q4, rfl, rfl, rfl, h4, r4⟩ := trodAll_cons r3
  obtain ⟨rfl, rfl, rfl⟩ := trodAll_nil r4
  obtain rfl : args = #[v0, v1, v2, v3, v4] := by cases args; simp_all
  obtain ⟨rfl, rfl⟩ := trodVars_none hV
  obtain ⟨z0, rfl⟩ := okWide_int Try.underlying3 (hval 0 3 v0 rfl rfl)
  obtain ⟨y0, u0, b0, e0⟩ := arg_leaf (α := Int) (opn_int Try.underlying3) rfl h0
  obtain ⟨z1, z'1, z''1, rfl⟩ := okWide_slice Try.underlying22 (hval 1 22 v1 rfl rfl)
  obtain ⟨y1, u1, b1, e1⟩ := arg_leaf (α := (List Int)) (opn_slice Try.underlying22 (by kernel_rfl) (by decide) (opn_int Try.underlying3)) rfl h1
  obtain ⟨z2, rfl⟩ := okWide_int Try.underlying3 (hval 2 3 v2 rfl rfl)
  obtain ⟨y2, u2, b2, e2⟩ := arg_leaf (α := Int) (opn_int Try.underlying3) rfl h2
  obtain ⟨z3, rfl⟩ := okWide_int Try.underlying3 (hval 3 3 v3 rfl rfl)
  obtain ⟨y3, u3, b3, e3⟩ := arg_leaf (α := Int) (opn_int Try.underlying3) rfl h3
  obtain ⟨z4, rfl⟩ := okWide_int Try.underlying3 (hval 4 3 v4 rfl rfl)
  obtain ⟨y4, u4, b4, e4⟩ := arg_leaf (α := Int) (opn_int Try.underlying3) rfl h4
  have hB : Siz.bulk y0 + Siz.bulk y1 + Siz.bulk y2 + Siz.bulk y3 + Siz.bulk y4 ≤ 1048576 := by
    have h := of_decide_eq_true hk
    rw [bsoon_bL] at h
    simp only [List.append_nil, bulkL] at h
    omega
  have hR := repL_cons (M := fun _ => False) (β := fun _ => none) (cp := fun _ => 0) (.c e0) (repL_cons (M := fun _ => False) (β := fun _ => none) (cp := fun _ => 0) (.c e1) (repL_cons (M := fun _ => False) (β := fun _ => none) (cp := fun _ => 0) (.c e2) (repL_cons (M := fun _ => False) (β := fun _ => none) (cp := fun _ => 0) (.c e3) (repL_cons (M := fun _ => False) (β := fun _ => none) (cp := fun _ => 0) (.c e4) (repL_nil)))))
  refine (law_callsA (bsoon_vc y0 y1 y2 y3 y4 u0 u1 u2 u3 u4 hB) hR).mono fun e W' ⟨he, bel⟩ => ?_
  subst he
  exact ⟨_, rfl, _, _, _, [], _, [], hW', trodAll_mk1 (shut_bool Try.underlying4 _), trodAll_below bsoon_laidOut bel (bsoon_readOk (by kernel_rfl)) (fun x hx => hlt x (List.mem_append_left _ hx)) hA1, rfl, bel.frame _, fun h => by cases h⟩
theorem BeatSoon_proved : Rows.BeatSoonUptoSaid :=
  OpenClaim.holds_of_cond 3 Try.f3 rfl rfl rfl rfl rfl rfl rfl ⟨rfl, rfl, rfl, rfl, rfl⟩ rfl rfl rfl rfl rfl (by kernel_rfl) Try.func3 (by kernel_rfl)
    (of_decide_eq_true (by kernel_rfl)) (by unfold Func.isWrapper; first | (rw [if_pos (by decide +kernel)]; kernel_rfl) | (rw [if_neg (by decide +kernel)]; exact ⟨rfl, rfl⟩))
    (fun os started H enc _ F => bsoon_lifted os started H enc F)
end

end Go.Proofs.Ytidingjknijjmaa
