/- A sample: a reader gets the last text, and is told whether it is fresh; for all inputs. -/
import Derived.Test.YthojlodlfgagmaaPortL
set_option linter.all false
namespace Go.Proofs.Ythojlodlfgagmaa
open Go Go.Abs

noncomputable def cPT : FuncId → Con := fun f => match f with
  | 7 => pureCon play_C
  | 8 => pureCon (detPC plives_D)
  | _ => fun _ _ _ => Bad 1001
theorem cPT_ok : ConOk Try.prog cPT := fun f A H K h => by
  unfold cPT at h
  split at h
  · exact ⟨⟨Try.f7, Try.func7, by kernel_rfl, by kernel_rfl⟩, pureCon_ok play_ok h⟩
  · exact ⟨⟨Try.f8, Try.func8, by kernel_rfl, by kernel_rfl⟩, pureCon_ok plives_ok h⟩
  · cases h
structure PlX (p0 : Port) (l : List PortOp) where
  k : Nat
  hk : k ≤ l.length
  last : ByteArray
  a : Int
  hl : lastB (runP p0 (l.take k)) last a
set_option maxRecDepth 100000 in
set_option maxHeartbeats 4000000 in
theorem plast_vc (size : Int) (fresh : Int) (l : (List PortOp)) (fit_size : Siz.fit size) (fit_fresh : Siz.fit fresh) (fit_l : Siz.fit l) (hB : Siz.bulk size + Siz.bulk fresh + Siz.bulk l ≤ 1048576) : FnOk Try.prog 4 [.i .i64 fun _ => size, .i .i64 fun _ => fresh, Leaf.av fun _ => l] [] (outA (.bc true) []) := by
  refine fn_ok envOk zl cPT_ok (draws_ok envOk zl dWq_ok mixed) (keep := [0, 1, 2, 6, 8, 9, 10, 11, 12, 13, 34, 40, 41, 42, 43, 47, 63, 99, 100]) Try.func4 rfl ?_
  have fin := @fin_b
  have finc := @fin_t
  generalize outA (.bc true) [] = K at fin finc
  cbv
  repeat' first | (show Stp _; exfalso; first | omega | (exact h ‹_›) | (exact absurd ‹_› h) | (exact Bool.false_ne_true (h.symm.trans (show _ = true by assumption)))) | (refine Stp.mk ?_; cbv) | (refine Gen.mk fun r hr => ?_; (try simp only [Dat.ok, Dat.dec, Leaf.ok, Leaf.val, Port.eta, PortOp.eta, PortAns.eta, val_sl, val_nil] at hr); cbv) | exact trivial | rfl | refine Both.mk ?_ ?_ | (refine Imp.mk fun h => ?_; (try dsimp only at h); (try simp only [nc, Int.toNat_natCast, Bool.not_eq_true', Bool.not_eq_false', decide_eq_true_eq, decide_eq_false_iff_not, beq_iff_eq, beq_eq_false_iff_ne, ba_inj, bne_iff_ne, ne_eq, Bool.and_eq_true, Bool.or_eq_true, Bool.and_eq_false_iff, Bool.or_eq_false_iff, Int.not_le, Int.not_lt, Nat.not_le, Nat.not_lt] at h); (try simp only [nc] at h)) | refine Ob.mk ?_ ?_ | refine Chk.mk (by kernel_rfl) ?_ | refine Eq'.mk ?_ | (refine AllN.mk fun i hi => ?_; cbv) | (refine AllS.mk fun r hr => ?_; (try simp only [Dat.ok, Dat.dec, Leaf.ok, Leaf.val, Port.eta, PortOp.eta, PortAns.eta, val_sl] at hr); cbv)
  all_goals ((try dsimp only at *); (try simp only [nc, Int.toNat_natCast, Bool.not_eq_true', Bool.not_eq_false', decide_eq_true_eq, decide_eq_false_iff_not, beq_iff_eq, beq_eq_false_iff_ne, ba_inj, bne_iff_ne, ne_eq, Bool.and_eq_true, Bool.or_eq_true, Bool.and_eq_false_iff, Bool.or_eq_false_iff, Int.not_le, Int.not_lt, Nat.not_le, Nat.not_lt] at *); (try simp only [nc] at *))
  all_goals try simp only [Dat.dec, Leaf.val, Port.eta, PortOp.eta, PortAns.eta, val_sl] at *
  all_goals first
    | exact ⟨rfl, fun i _ => Dat.hok _⟩
    | (refine fin ?_; simp only [Bool.not_eq_true', beq_eq_false_iff_ne, ne_eq]; assumption)
    | (exfalso
       have q0 : r.2.2 = 0 := by assumption
       have q1 := (playP_ok hr q0).2.2.2.2
       omega)
    | skip
  obtain ⟨p1, p2, p3, p4, p5⟩ := playP_ok hr (by assumption)
  generalize hp0 : port0 1 size 1 fresh = p0 at p1 p3 p4
  have pk : p0.kind = 1 := by rw [← hp0]; rfl
  have pf : p0.fresh = fresh := by rw [← hp0]; rfl
  have pl : lastB p0 .empty (-1) := by rw [← hp0]; exact .inl ⟨rfl, rfl, rfl, rfl⟩
  clear hp0
  refine LoopVC.frame [6, 10, 11, 12, 13, 42, 43, 47, 63, 99, 100] (PlX p0 l) (fun x => [(42, .i .i64 fun _ => x.k), (10, .s fun _ => x.last), (11, .i .i64 fun _ => x.a)]) (fun _ => []) [] (fun x => l.length - x.k)
    ⟨0, Nat.zero_le _, .empty, -1, pl⟩ rfl (fun _ => rfl) ?_ ?_ fun ⟨k, hk, last, a, hl⟩ => ?_
  · cbv
    repeat' first | (refine Stp.mk ?_; cbv) | (refine Gen.mk fun r hr => ?_; (try simp only [Dat.ok, Dat.dec, Leaf.ok, Leaf.val, Port.eta, PortOp.eta, PortAns.eta, val_sl, val_nil] at hr); cbv) | exact trivial | rfl | refine Both.mk ?_ ?_ | (refine Imp.mk fun h => ?_; (try dsimp only at h); (try simp only [nc, Int.toNat_natCast, Bool.not_eq_true', Bool.not_eq_false', decide_eq_true_eq, decide_eq_false_iff_not, beq_iff_eq, beq_eq_false_iff_ne, ba_inj, bne_iff_ne, ne_eq, Bool.and_eq_true, Bool.or_eq_true, Bool.and_eq_false_iff, Bool.or_eq_false_iff, Int.not_le, Int.not_lt, Nat.not_le, Nat.not_lt] at h); (try simp only [nc] at h)) | refine Ob.mk ?_ ?_ | refine Chk.mk (by kernel_rfl) ?_ | refine Eq'.mk ?_ | (refine AllN.mk fun i hi => ?_; cbv) | (refine AllS.mk fun r hr => ?_; (try simp only [Dat.ok, Dat.dec, Leaf.ok, Leaf.val, Port.eta, PortOp.eta, PortAns.eta, val_sl] at hr); cbv)
  · cbv
    repeat' first | (refine Stp.mk ?_; cbv) | (refine Gen.mk fun r hr => ?_; (try simp only [Dat.ok, Dat.dec, Leaf.ok, Leaf.val, Port.eta, PortOp.eta, PortAns.eta, val_sl, val_nil] at hr); cbv) | exact trivial | rfl | refine Both.mk ?_ ?_ | (refine Imp.mk fun h => ?_; (try dsimp only at h); (try simp only [nc, Int.toNat_natCast, Bool.not_eq_true', Bool.not_eq_false', decide_eq_true_eq, decide_eq_false_iff_not, beq_iff_eq, beq_eq_false_iff_ne, ba_inj, bne_iff_ne, ne_eq, Bool.and_eq_true, Bool.or_eq_true, Bool.and_eq_false_iff, Bool.or_eq_false_iff, Int.not_le, Int.not_lt, Nat.not_le, Nat.not_lt] at h); (try simp only [nc] at h)) | refine Ob.mk ?_ ?_ | refine Chk.mk (by kernel_rfl) ?_ | refine Eq'.mk ?_ | (refine AllN.mk fun i hi => ?_; cbv) | (refine AllS.mk fun r hr => ?_; (try simp only [Dat.ok, Dat.dec, Leaf.ok, Leaf.val, Port.eta, PortOp.eta, PortAns.eta, val_sl] at hr); cbv)
  have hc := run_chk (l.take k) p1
  obtain ⟨f1, f2, f3, f4⟩ := run_fix (l.take k) p0
  have hA : k < l.length → r.2.1.getD k Dat.d0 = (stepP (runP p0 (l.take k)) (l.getD k Dat.d0)).2 := fun h => by rw [p4]; exact ansP_get h
  have hS : k < l.length → runP p0 (l.take (k + 1)) = nextP (runP p0 (l.take k)) (l.getD k Dat.d0) := fun h => runP_snoc h
  have hL := last_law (o := l.getD k Dat.d0) hc (f1.trans pk) hl
  have hab : -1 ≤ a ∧ a ≤ 1099511627776 := by
    have := pchk_iff.1 hc
    rcases hl with ⟨q, -⟩ | ⟨q1, q2, q3⟩ <;> omega
  have hfr := (pchk_iff.1 hc).1
  cbv
  repeat' first | (show Stp _; exfalso; first | omega | (exact h ‹_›) | (exact absurd ‹_› h) | (exact Bool.false_ne_true (h.symm.trans (show _ = true by assumption)))) | (refine Stp.mk ?_; cbv) | (refine Gen.mk fun r hr => ?_; (try simp only [Dat.ok, Dat.dec, Leaf.ok, Leaf.val, Port.eta, PortOp.eta, PortAns.eta, val_sl, val_nil] at hr); cbv) | exact trivial | rfl | refine Both.mk ?_ ?_ | (refine Imp.mk fun h => ?_; (try dsimp only at h); (try simp only [nc, Int.toNat_natCast, Bool.not_eq_true', Bool.not_eq_false', decide_eq_true_eq, decide_eq_false_iff_not, beq_iff_eq, beq_eq_false_iff_ne, ba_inj, bne_iff_ne, ne_eq, Bool.and_eq_true, Bool.or_eq_true, Bool.and_eq_false_iff, Bool.or_eq_false_iff, Int.not_le, Int.not_lt, Nat.not_le, Nat.not_lt] at h); (try simp only [nc] at h)) | refine Ob.mk ?_ ?_ | refine Chk.mk (by kernel_rfl) ?_ | refine Eq'.mk ?_ | (refine AllN.mk fun i hi => ?_; cbv) | (refine AllS.mk fun r hr => ?_; (try simp only [Dat.ok, Dat.dec, Leaf.ok, Leaf.val, Port.eta, PortOp.eta, PortAns.eta, val_sl] at hr); cbv)
  all_goals ((try dsimp only at *); (try simp only [nc, Int.toNat_natCast, Bool.not_eq_true', Bool.not_eq_false', decide_eq_true_eq, decide_eq_false_iff_not, beq_iff_eq, beq_eq_false_iff_ne, ba_inj, bne_iff_ne, ne_eq, Bool.and_eq_true, Bool.or_eq_true, Bool.and_eq_false_iff, Bool.or_eq_false_iff, Int.not_le, Int.not_lt, Nat.not_le, Nat.not_lt] at *); (try simp only [nc] at *))
  all_goals try have hA' := hA (by omega)
  all_goals try have hS' := hS (by omega)
  all_goals try rw [← hA'] at hL
  all_goals rw [f4, pf] at hL
  all_goals first
    | omega
    | (unfold InR; omega)
    | exact ⟨by omega, by omega⟩
    | exact finc
    | (have q1 : (r.2.1.getD k Dat.d0).err = 0 := by assumption
       have q2 : (l.getD k Dat.d0).kind = 2 := by assumption
       have q3 := hL.2.2.1 q1 q2
       unfold InR
       omega)
    | (have q1 : (r.2.1.getD k Dat.d0).err = 0 := by assumption
       have q2 : (l.getD k Dat.d0).kind = 1 := by assumption
       refine ⟨⟨k + 1, by omega, (l.getD k Dat.d0).text, (l.getD k Dat.d0).now, by rw [hS']; exact hL.1 q1 q2⟩, ?_, ?_, rfl, by (try dsimp only); omega⟩
       · cbv
         repeat' first | (refine Stp.mk ?_; cbv) | (refine Gen.mk fun r hr => ?_; (try simp only [Dat.ok, Dat.dec, Leaf.ok, Leaf.val, Port.eta, PortOp.eta, PortAns.eta, val_sl, val_nil] at hr); cbv) | exact trivial | rfl | refine Both.mk ?_ ?_ | (refine Imp.mk fun h => ?_; (try dsimp only at h); (try simp only [nc, Int.toNat_natCast, Bool.not_eq_true', Bool.not_eq_false', decide_eq_true_eq, decide_eq_false_iff_not, beq_iff_eq, beq_eq_false_iff_ne, ba_inj, bne_iff_ne, ne_eq, Bool.and_eq_true, Bool.or_eq_true, Bool.and_eq_false_iff, Bool.or_eq_false_iff, Int.not_le, Int.not_lt, Nat.not_le, Nat.not_lt] at h); (try simp only [nc] at h)) | refine Ob.mk ?_ ?_ | refine Chk.mk (by kernel_rfl) ?_ | refine Eq'.mk ?_ | (refine AllN.mk fun i hi => ?_; cbv) | (refine AllS.mk fun r hr => ?_; (try simp only [Dat.ok, Dat.dec, Leaf.ok, Leaf.val, Port.eta, PortOp.eta, PortAns.eta, val_sl] at hr); cbv)
       · cbv
         repeat' first | (refine Stp.mk ?_; cbv) | (refine Gen.mk fun r hr => ?_; (try simp only [Dat.ok, Dat.dec, Leaf.ok, Leaf.val, Port.eta, PortOp.eta, PortAns.eta, val_sl, val_nil] at hr); cbv) | exact trivial | rfl | refine Both.mk ?_ ?_ | (refine Imp.mk fun h => ?_; (try dsimp only at h); (try simp only [nc, Int.toNat_natCast, Bool.not_eq_true', Bool.not_eq_false', decide_eq_true_eq, decide_eq_false_iff_not, beq_iff_eq, beq_eq_false_iff_ne, ba_inj, bne_iff_ne, ne_eq, Bool.and_eq_true, Bool.or_eq_true, Bool.and_eq_false_iff, Bool.or_eq_false_iff, Int.not_le, Int.not_lt, Nat.not_le, Nat.not_lt] at h); (try simp only [nc] at h)) | refine Ob.mk ?_ ?_ | refine Chk.mk (by kernel_rfl) ?_ | refine Eq'.mk ?_ | (refine AllN.mk fun i hi => ?_; cbv) | (refine AllS.mk fun r hr => ?_; (try simp only [Dat.ok, Dat.dec, Leaf.ok, Leaf.val, Port.eta, PortOp.eta, PortAns.eta, val_sl] at hr); cbv)
       done)
    | (have q : ¬ ((r.2.1.getD k Dat.d0).err = 0 ∧ (l.getD k Dat.d0).kind = 1) := by omega
       refine ⟨⟨k + 1, by omega, last, a, by rw [hS']; exact hL.2.1 q⟩, ?_, ?_, rfl, by (try dsimp only); omega⟩
       · cbv
         repeat' first | (refine Stp.mk ?_; cbv) | (refine Gen.mk fun r hr => ?_; (try simp only [Dat.ok, Dat.dec, Leaf.ok, Leaf.val, Port.eta, PortOp.eta, PortAns.eta, val_sl, val_nil] at hr); cbv) | exact trivial | rfl | refine Both.mk ?_ ?_ | (refine Imp.mk fun h => ?_; (try dsimp only at h); (try simp only [nc, Int.toNat_natCast, Bool.not_eq_true', Bool.not_eq_false', decide_eq_true_eq, decide_eq_false_iff_not, beq_iff_eq, beq_eq_false_iff_ne, ba_inj, bne_iff_ne, ne_eq, Bool.and_eq_true, Bool.or_eq_true, Bool.and_eq_false_iff, Bool.or_eq_false_iff, Int.not_le, Int.not_lt, Nat.not_le, Nat.not_lt] at h); (try simp only [nc] at h)) | refine Ob.mk ?_ ?_ | refine Chk.mk (by kernel_rfl) ?_ | refine Eq'.mk ?_ | (refine AllN.mk fun i hi => ?_; cbv) | (refine AllS.mk fun r hr => ?_; (try simp only [Dat.ok, Dat.dec, Leaf.ok, Leaf.val, Port.eta, PortOp.eta, PortAns.eta, val_sl] at hr); cbv)
       · cbv
         repeat' first | (refine Stp.mk ?_; cbv) | (refine Gen.mk fun r hr => ?_; (try simp only [Dat.ok, Dat.dec, Leaf.ok, Leaf.val, Port.eta, PortOp.eta, PortAns.eta, val_sl, val_nil] at hr); cbv) | exact trivial | rfl | refine Both.mk ?_ ?_ | (refine Imp.mk fun h => ?_; (try dsimp only at h); (try simp only [nc, Int.toNat_natCast, Bool.not_eq_true', Bool.not_eq_false', decide_eq_true_eq, decide_eq_false_iff_not, beq_iff_eq, beq_eq_false_iff_ne, ba_inj, bne_iff_ne, ne_eq, Bool.and_eq_true, Bool.or_eq_true, Bool.and_eq_false_iff, Bool.or_eq_false_iff, Int.not_le, Int.not_lt, Nat.not_le, Nat.not_lt] at h); (try simp only [nc] at h)) | refine Ob.mk ?_ ?_ | refine Chk.mk (by kernel_rfl) ?_ | refine Eq'.mk ?_ | (refine AllN.mk fun i hi => ?_; cbv) | (refine AllS.mk fun r hr => ?_; (try simp only [Dat.ok, Dat.dec, Leaf.ok, Leaf.val, Port.eta, PortOp.eta, PortAns.eta, val_sl] at hr); cbv)
       done)
    | (exfalso
       have q1 : (r.2.1.getD k Dat.d0).err = 0 := by assumption
       have q2 : (l.getD k Dat.d0).kind = 2 := by assumption
       obtain ⟨q3, q4, q5, q6⟩ := hL.2.2.1 q1 q2
       first
         | omega
         | exact absurd q4 (by assumption)
         | exact absurd q5 (by assumption))
    | (exfalso
       have q1 : ¬ (r.2.1.getD k Dat.d0).err = 0 := by assumption
       have q2 : (l.getD k Dat.d0).kind = 2 := by assumption
       have q3 : (if a < 0 then 0 else a) ≤ (l.getD k Dat.d0).now := by assumption
       rw [if_neg (by omega)] at q3
       have q4 := hL.2.2.2 q1 q2 (by omega) q3
       omega)
    | fail
section
open Go.ChangeShapes Go.WideShapes Go.ChangeAt Go.RowKit Go.Joins Go.Deep
set_option linter.unusedVariables false
theorem plast_own : ownKnob Try.prog.godebug = none := by kernel_rfl
theorem plast_laidOut : laidOutB Try.prog = true := by kernel_rfl
theorem plast_readOk {ts : Array TypeId} (h : ts.toList.all (fun t => Try.prog.readableRec t && decide (t < Try.prog.types.size)) = true) : ∀ t ∈ ts.toList, Try.prog.readableRec t = true ∧ t < Try.prog.types.size := fun t ht => by
  have := List.all_eq_true.1 h t ht
  simpa using this
mutual
theorem plast_bD {H : Type} : ∀ d : DataW H, Rows.uptoBulk d = bulkD d
  | .lit l => by cases l <;> simp [Rows.uptoBulk, bulkD]
  | .nil => by simp [Rows.uptoBulk, bulkD]
  | .ptr d => by simp [Rows.uptoBulk, bulkD, plast_bD d]
  | .slice a b => by simp [Rows.uptoBulk, bulkD, plast_bL a, plast_bL b]
  | .agg a => by simp [Rows.uptoBulk, bulkD, plast_bL a]
  | .iface _ d => by simp [Rows.uptoBulk, bulkD, plast_bD d]
  | .map e => by simp [Rows.uptoBulk, bulkD, plast_bE e]
  | .held _ => by simp [Rows.uptoBulk, bulkD]
theorem plast_bL {H : Type} : ∀ d : List (DataW H), Rows.uptoBulkAll d = bulkL d
  | [] => by simp [Rows.uptoBulkAll, bulkL]
  | d :: r => by simp [Rows.uptoBulkAll, bulkL, plast_bD d, plast_bL r]
theorem plast_bE {H : Type} : ∀ d : List (Lit × DataW H), Rows.uptoBulkEntries d = bulkE d
  | [] => by simp [Rows.uptoBulkEntries, bulkE]
  | d :: r => by simp [Rows.uptoBulkEntries, bulkE, plast_bX d, plast_bE r]
theorem plast_bX {H : Type} : ∀ d : Lit × DataW H, Rows.uptoBulkEntry d = bulkX d
  | (l, d) => by cases l <;> simp [Rows.uptoBulkEntry, bulkX, plast_bD d]
end
set_option maxRecDepth 100000 in
theorem plast_lifted (os : Os) (started : os.Started) (H : Type) (enc : TypeId × Value → H) (F : Stop.Interp) :
    ReturnsInHanded {} Try.checked os 4 .any ((Rows.OpenSpec.upto Rows.portLastSpec).pre6 enc Try.prog Try.f4 Rows.portLastUptoRow.domain false) (((Rows.OpenSpec.upto Rows.portLastSpec).at F).post enc Try.prog Try.f4 false true false false) := by
  refine returnsInHanded_of_cond (C := Try.checked) (s := Rows.OpenSpec.upto Rows.portLastSpec) (k := Rows.uptoSmall) rfl plast_own started (by kernel_rfl) Try.func4
    (OpenSpec.witness (enc := enc) (C := Try.checked) (s := Rows.OpenSpec.upto Rows.portLastSpec) (k := Rows.uptoSmall) rfl false ⟨#[], #[.int .i64 0, .int .i64 0, .slice none 0 0], []⟩ 8 (by kernel_rfl) (by kernel_rfl) (by kernel_rfl)
      (x := ([.lit (.int .i64 0), .lit (.int .i64 0), .nil], [], [])) (by kernel_rfl) rfl (by kernel_rfl)) ?_
  intro W base args ds gs before hval0 hW _ hk _
  show Calls Try.prog 4 args W fun e W' => ∃ v, e = .returned v ∧ Rows.portLastSpec.post enc Try.prog Try.f4 false true false false W args v W'
  have hval : ∀ (j : Nat) t v, Try.f4.params[j]? = some t → args[j]? = some v → Value.okWide Try.prog W .any base t v := hval0
  have hW' := hW
  have hlt := hW.lt
  obtain ⟨p, q, hA0, hV, rfl, hfz, hnd⟩ := hW
  have hA : DataW.TrodAll enc Try.prog W 0 (fun _ => true) true Try.f4.params.toList args.toList ds p := hA0
  have hA1 := hA
  rw [Try.params4] at hA hval
  obtain ⟨v0, vs0, d0, ds0, p0, q0, hargs, rfl, rfl, h0, r0⟩ := trodAll_cons hA
  obtain ⟨v1, vs1, d1, ds1, p1, q1, rfl, rfl, rfl, h1, r1⟩ := trodAll_cons r0
  obtain ⟨v2, vs2, d2, ds2, p2, q2, rfl, rfl, rfl, h2, r2⟩ := trodAll_cons r1
  obtain ⟨rfl, rfl, rfl⟩ := trodAll_nil r2
  obtain rfl : args = #[v0, v1, v2] := by cases args; simp_all
  obtain ⟨rfl, rfl⟩ := trodVars_none hV
  obtain ⟨z0, rfl⟩ := okWide_int Try.underlying3 (hval 0 3 v0 rfl rfl)
  obtain ⟨y0, u0, b0, e0⟩ := arg_leaf (α := Int) (opn_int Try.underlying3) rfl h0
  obtain ⟨z1, rfl⟩ := okWide_int Try.underlying3 (hval 1 3 v1 rfl rfl)
  obtain ⟨y1, u1, b1, e1⟩ := arg_leaf (α := Int) (opn_int Try.underlying3) rfl h1
  obtain ⟨z2, z'2, z''2, rfl⟩ := okWide_slice Try.underlying22 (hval 2 22 v2 rfl rfl)
  obtain ⟨y2, u2, b2, e2⟩ := arg_leaf (α := (List PortOp)) (opn_slice Try.underlying22 (by kernel_rfl) (by decide) opn_PortOp) rfl h2
  have hB : Siz.bulk y0 + Siz.bulk y1 + Siz.bulk y2 ≤ 1048576 := by
    have h := of_decide_eq_true hk
    rw [plast_bL] at h
    simp only [List.append_nil, bulkL] at h
    omega
  have hR := repL_cons (M := fun _ => False) (β := fun _ => none) (cp := fun _ => 0) (.c e0) (repL_cons (M := fun _ => False) (β := fun _ => none) (cp := fun _ => 0) (.c e1) (repL_cons (M := fun _ => False) (β := fun _ => none) (cp := fun _ => 0) (.c e2) (repL_nil)))
  refine (law_callsA (plast_vc y0 y1 y2 u0 u1 u2 hB) hR).mono fun e W' ⟨he, bel⟩ => ?_
  subst he
  exact ⟨_, rfl, _, _, _, [], _, [], hW', trodAll_mk1 (shut_bool Try.underlying4 _), trodAll_below plast_laidOut bel (plast_readOk (by kernel_rfl)) (fun x hx => hlt x (List.mem_append_left _ hx)) hA1, rfl, bel.frame _, fun h => by cases h⟩
theorem PortLast_proved : Rows.PortLastUptoSaid :=
  OpenClaim.holds_of_cond 4 Try.f4 rfl rfl rfl rfl rfl rfl rfl ⟨rfl, rfl, rfl, rfl, rfl⟩ rfl rfl rfl rfl rfl (by kernel_rfl) Try.func4 (by kernel_rfl)
    (of_decide_eq_true (by kernel_rfl)) (by unfold Func.isWrapper; first | (rw [if_pos (by decide +kernel)]; kernel_rfl) | (rw [if_neg (by decide +kernel)]; exact ⟨rfl, rfl⟩))
    (fun os started H enc _ F => plast_lifted os started H enc F)
end

end Go.Proofs.Ythojlodlfgagmaa
