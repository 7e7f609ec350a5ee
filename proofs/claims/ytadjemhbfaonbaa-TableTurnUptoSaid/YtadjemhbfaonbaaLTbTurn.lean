/- Turns go on without a gap; no two beside one another are one owner's; each is its owner's; for all inputs. -/
import Derived.Test.YtadjemhbfaonbaaTabL
import Derived.Test.YtadjemhbfaonbaaTurn
import Derived.Test.YtadjemhbfaonbaaTimes
set_option linter.all false
namespace Go.Proofs.Ytadjemhbfaonbaa
open Go Go.Abs

noncomputable def cTbT : FuncId → Con := fun f => match f with
  | 7 => pureCon turns_C
  | 8 => pureCon (detPC tablives_D)
  | 10 => pureCon (detPC wowner_D)
  | 15 => pureCon times_C
  | 16 => pureCon (detPC count_D)
  | _ => fun _ _ _ => Bad 1001
theorem cTbT_ok : ConOk Try.prog cTbT := fun f A H K h => by
  unfold cTbT at h
  split at h
  · exact ⟨⟨Try.f7, Try.func7, by kernel_rfl, by kernel_rfl⟩, pureCon_ok turns_ok h⟩
  · exact ⟨⟨Try.f8, Try.func8, by kernel_rfl, by kernel_rfl⟩, pureCon_ok tablives_ok h⟩
  · exact ⟨⟨Try.f10, Try.func10, by kernel_rfl, by kernel_rfl⟩, pureCon_ok wowner_ok h⟩
  · exact ⟨⟨Try.f15, Try.func15, by kernel_rfl, by kernel_rfl⟩, pureCon_ok times_ok h⟩
  · exact ⟨⟨Try.f16, Try.func16, by kernel_rfl, by kernel_rfl⟩, pureCon_ok count_ok h⟩
  · cases h
def dTbT : FuncId → Option Dt := fun f => match f with
  | _ => none
theorem dTbT_ok : DetOk Try.prog dTbT := fun f d h => by
  unfold dTbT at h
  split at h
  · cases h
theorem runs_get {t : Table} : ∀ {l : List Window} {a b : Int} {k : Nat}, Runs t a b l → k < l.length → Runs t (l.getD k Dat.d0).frm b (l.drop k) ∧ (∀ y, (l.getD k Dat.d0).frm ≤ y → y < (l.getD k Dat.d0).frm + (l.getD k Dat.d0).long → ownT t y = (l.getD k Dat.d0).owner) ∧ (0 < k → (l.getD (k - 1) Dat.d0).owner ≠ (l.getD k Dat.d0).owner)
  | w :: r, a, b, 0, h, _ => by
    have h' := h
    rw [Runs] at h
    refine ⟨by rw [List.getD_cons_zero, h.1]; exact h', ?_, fun q => absurd q (Nat.lt_irrefl _)⟩
    rw [List.getD_cons_zero, h.1]
    exact h.2.2.1
  | w :: r, a, b, k + 1, h, hk => by
    rw [Runs] at h
    obtain ⟨q1, q2, q3⟩ := runs_get (k := k) h.2.2.2.2 (by simpa using hk)
    refine ⟨by rw [List.getD_cons_succ, List.drop_succ_cons]; exact q1, by rw [List.getD_cons_succ]; exact q2, fun _ => ?_⟩
    cases k with
    | zero =>
      cases r with
      | nil => simp at hk
      | cons z s => exact fun e => h.2.2.2.1 z rfl e.symm
    | succ j =>
      have := q3 (by omega)
      simpa only [List.getD_cons_succ, Nat.add_sub_cancel] using this
def atT (a : Int) (l : List Window) (k : Nat) (b : Int) : Int := if k < l.length then (l.getD k Dat.d0).frm else b
theorem runs_next {t : Table} {l : List Window} {a b : Int} {k : Nat} (h : Runs t a b l) (hk : k < l.length) : (l.getD k Dat.d0).frm + (l.getD k Dat.d0).long = atT a l (k + 1) b := by
  have g := (runs_get h hk).1
  rw [drop_cons Dat.d0 hk, Runs] at g
  unfold atT
  by_cases hk2 : k + 1 < l.length
  · rw [if_pos hk2]
    have g2 := g.2.2.2.2
    rw [drop_cons Dat.d0 hk2, Runs] at g2
    exact g2.1.symm
  · rw [if_neg hk2]
    have g2 := g.2.2.2.2
    rw [List.drop_eq_nil_of_le (by omega), Runs] at g2
    exact g2
theorem runs_zero {t : Table} {l : List Window} {a b : Int} (h : Runs t a b l) : atT a l 0 b = a := by
  unfold atT
  cases l with
  | nil => rw [Runs] at h; rw [if_neg (by simp)]; omega
  | cons w r => rw [Runs] at h; rw [if_pos (by simp), List.getD_cons_zero]; exact h.1
theorem own_at {t : Table} (h : RightT t) {y : Int} (h0 : 0 ≤ y) (h1 : y ≤ 1099511627776) : ownerV t y = (ownT t y, 0) := by
  rw [ownerV, if_pos (wchk_iff.2 h), if_neg (by omega)]; rfl
theorem times_len (t : Table) (n : Int) : (timesV t n).1.spans.length ≤ 200 := by
  by_cases h1 : wchkV t = 0
  · by_cases h2 : ownB n = true
    · exact (times_rt (wchk_iff.1 h1) h2).rt.len
    · rw [timesV, if_pos h1, if_neg h2]; exact Nat.zero_le _
  · rw [timesV, if_neg h1]; exact Nat.zero_le _
set_option maxRecDepth 100000 in
set_option maxHeartbeats 4000000 in
theorem tbturn_vc (t : Table) (frm : Int) (to : Int) (fit_t : Siz.fit t) (fit_frm : Siz.fit frm) (fit_to : Siz.fit to) (hB : Siz.bulk t + Siz.bulk frm + Siz.bulk to ≤ 1048576) : FnOk Try.prog 5 [.agg (Dat.enc fun _ => t), .i .i64 fun _ => frm, .i .i64 fun _ => to] [] (outA (.bc true) []) := by
  refine fn_ok envOk zl cTbT_ok (draws_ok envOk zl dTbT_ok mixed) (keep := [0, 1, 2, 3, 6, 7, 8, 9, 10, 11, 12, 13, 14, 15, 16, 17, 18, 19, 32, 40, 41, 42, 43, 87, 106, 109, 136]) Try.func5 rfl ?_
  have fin := @fin_b
  have finc := @fin_t
  have hl : t.windows.length ≤ 1048576 := by
    have h1 := bulk_len (α := Window) Window.one_le t.windows
    simp only [Siz.bulk] at hB h1
    omega
  generalize outA (.bc true) [] = K at fin finc
  cbv
  repeat' first | (show Stp _; exfalso; first | omega | (exact h ‹_›) | (exact absurd ‹_› h) | (exact Bool.false_ne_true (h.symm.trans (show _ = true by assumption)))) | (refine Stp.mk ?_; cbv) | (refine Gen.mk fun r hr => ?_; (try simp only [Dat.ok, Dat.dec, Leaf.ok, Leaf.val, Span.eta, Set.eta, Window.eta, Table.eta, Want.eta, val_sl, val_nil] at hr); cbv) | exact trivial | rfl | refine Both.mk ?_ ?_ | (refine Imp.mk fun h => ?_; (try dsimp only at h); (try simp only [nc, Int.toNat_natCast, Bool.not_eq_true', Bool.not_eq_false', decide_eq_true_eq, decide_eq_false_iff_not, beq_iff_eq, beq_eq_false_iff_ne, ba_inj, bne_iff_ne, ne_eq, Bool.and_eq_true, Bool.or_eq_true, Bool.and_eq_false_iff, Bool.or_eq_false_iff, Int.not_le, Int.not_lt, Nat.not_le, Nat.not_lt] at h); (try simp only [nc] at h)) | refine Ob.mk ?_ ?_ | refine Chk.mk (by kernel_rfl) ?_ | refine Eq'.mk ?_ | (refine AllN.mk fun i hi => ?_; cbv) | (refine AllS.mk fun r hr => ?_; (try simp only [Dat.ok, Dat.dec, Leaf.ok, Leaf.val, Span.eta, Set.eta, Window.eta, Table.eta, Want.eta, val_sl] at hr); cbv)
  all_goals ((try dsimp only at *); (try simp only [nc, Int.toNat_natCast, Bool.not_eq_true', Bool.not_eq_false', decide_eq_true_eq, decide_eq_false_iff_not, beq_iff_eq, beq_eq_false_iff_ne, ba_inj, bne_iff_ne, ne_eq, Bool.and_eq_true, Bool.or_eq_true, Bool.and_eq_false_iff, Bool.or_eq_false_iff, Int.not_le, Int.not_lt, Nat.not_le, Nat.not_lt] at *); (try simp only [nc] at *))
  all_goals try simp only [Dat.dec, Leaf.val, Span.eta, Set.eta, Window.eta, Table.eta, Want.eta, val_sl] at *
  all_goals first
    | exact finc
    | exact Nat.le_refl _
    | exact ⟨⟨trivial, rfl, fun i _ => Dat.hok _⟩, show _ ≤ _ by omega⟩
    | skip
  all_goals repeat (rename (_ = turnsV _ _ _) => hq3; subst hq3)
  all_goals first
    | (refine fin (decide_eq_true ?_); rw [turns_no (by assumption)]; rfl)
    | (refine fin ?_; rw [turns_no (by assumption)]; rfl)
    | skip
  obtain ⟨hR, ha, hab, hb, hRn, hl4⟩ := turns_is (by assumption : (turnsV t frm to).2 = 0)
  have s1 := hR.s1
  have s2 := hR.s2
  generalize hL : (turnsV t frm to).1 = L at *
  refine LoopVC.frame [6, 9, 10, 11, 12, 13, 14, 15, 16, 17, 18, 19, 42, 43, 87, 106, 109, 136] (Σ' k : Nat, k ≤ L.length) (fun x => [(42, .i .i64 fun _ => x.1), (9, .i .i64 fun _ => atT frm L x.1 to)]) (fun _ => []) [] (fun x => L.length - x.1) ⟨0, Nat.zero_le _⟩ rfl (fun _ => rfl) ?_ ?_ fun ⟨k, hk⟩ => ?_
  · cbv
    repeat' first | (refine Stp.mk ?_; cbv) | (refine Gen.mk fun r hr => ?_; (try simp only [Dat.ok, Dat.dec, Leaf.ok, Leaf.val, Span.eta, Set.eta, Window.eta, Table.eta, Want.eta, val_sl, val_nil] at hr); cbv) | exact trivial | rfl | refine Both.mk ?_ ?_ | (refine Imp.mk fun h => ?_; (try dsimp only at h); (try simp only [nc, Int.toNat_natCast, Bool.not_eq_true', Bool.not_eq_false', decide_eq_true_eq, decide_eq_false_iff_not, beq_iff_eq, beq_eq_false_iff_ne, ba_inj, bne_iff_ne, ne_eq, Bool.and_eq_true, Bool.or_eq_true, Bool.and_eq_false_iff, Bool.or_eq_false_iff, Int.not_le, Int.not_lt, Nat.not_le, Nat.not_lt] at h); (try simp only [nc] at h)) | refine Ob.mk ?_ ?_ | refine Chk.mk (by kernel_rfl) ?_ | refine Eq'.mk ?_ | (refine AllN.mk fun i hi => ?_; cbv) | (refine AllS.mk fun r hr => ?_; (try simp only [Dat.ok, Dat.dec, Leaf.ok, Leaf.val, Span.eta, Set.eta, Window.eta, Table.eta, Want.eta, val_sl] at hr); cbv)
    all_goals first | rfl | exact (runs_zero hRn).symm
  · cbv
    repeat' first | (refine Stp.mk ?_; cbv) | (refine Gen.mk fun r hr => ?_; (try simp only [Dat.ok, Dat.dec, Leaf.ok, Leaf.val, Span.eta, Set.eta, Window.eta, Table.eta, Want.eta, val_sl, val_nil] at hr); cbv) | exact trivial | rfl | refine Both.mk ?_ ?_ | (refine Imp.mk fun h => ?_; (try dsimp only at h); (try simp only [nc, Int.toNat_natCast, Bool.not_eq_true', Bool.not_eq_false', decide_eq_true_eq, decide_eq_false_iff_not, beq_iff_eq, beq_eq_false_iff_ne, ba_inj, bne_iff_ne, ne_eq, Bool.and_eq_true, Bool.or_eq_true, Bool.and_eq_false_iff, Bool.or_eq_false_iff, Int.not_le, Int.not_lt, Nat.not_le, Nat.not_lt] at h); (try simp only [nc] at h)) | refine Ob.mk ?_ ?_ | refine Chk.mk (by kernel_rfl) ?_ | refine Eq'.mk ?_ | (refine AllN.mk fun i hi => ?_; cbv) | (refine AllS.mk fun r hr => ?_; (try simp only [Dat.ok, Dat.dec, Leaf.ok, Leaf.val, Span.eta, Set.eta, Window.eta, Table.eta, Want.eta, val_sl] at hr); cbv)
  · have hnx := fun hk2 => runs_next (k := k) hRn hk2
    have hat : k < L.length → atT frm L k to = (L.getD k Dat.d0).frm := fun q => if_pos q
    have hat2 : ¬ k < L.length → atT frm L k to = to := fun q => if_neg q
    generalize hA : atT frm L k to = A at *
    cbv
    repeat' first | (show Stp _; exfalso; first | omega | (exact h ‹_›) | (exact absurd ‹_› h) | (exact Bool.false_ne_true (h.symm.trans (show _ = true by assumption)))) | (refine Stp.mk ?_; cbv) | (refine Gen.mk fun r hr => ?_; (try simp only [Dat.ok, Dat.dec, Leaf.ok, Leaf.val, Span.eta, Set.eta, Window.eta, Table.eta, Want.eta, val_sl, val_nil] at hr); cbv) | exact trivial | rfl | refine Both.mk ?_ ?_ | (refine Imp.mk fun h => ?_; (try dsimp only at h); (try simp only [nc, Int.toNat_natCast, Bool.not_eq_true', Bool.not_eq_false', decide_eq_true_eq, decide_eq_false_iff_not, beq_iff_eq, beq_eq_false_iff_ne, ba_inj, bne_iff_ne, ne_eq, Bool.and_eq_true, Bool.or_eq_true, Bool.and_eq_false_iff, Bool.or_eq_false_iff, Int.not_le, Int.not_lt, Nat.not_le, Nat.not_lt] at h); (try simp only [nc] at h)) | refine Ob.mk ?_ ?_ | refine Chk.mk (by kernel_rfl) ?_ | refine Eq'.mk ?_ | (refine AllN.mk fun i hi => ?_; cbv) | (refine AllS.mk fun r hr => ?_; (try simp only [Dat.ok, Dat.dec, Leaf.ok, Leaf.val, Span.eta, Set.eta, Window.eta, Table.eta, Want.eta, val_sl] at hr); cbv)
    all_goals ((try dsimp only at *); (try simp only [nc, Int.toNat_natCast, Bool.not_eq_true', Bool.not_eq_false', decide_eq_true_eq, decide_eq_false_iff_not, beq_iff_eq, beq_eq_false_iff_ne, ba_inj, bne_iff_ne, ne_eq, Bool.and_eq_true, Bool.or_eq_true, Bool.and_eq_false_iff, Bool.or_eq_false_iff, Int.not_le, Int.not_lt, Nat.not_le, Nat.not_lt] at *); (try simp only [nc] at *))
    all_goals try rw [nc] at *
    all_goals try simp only [Dat.dec, Leaf.val, Span.eta, Set.eta, Window.eta, Table.eta, Want.eta, val_sl] at *
    all_goals first
      | omega
      | exact ⟨by omega, by omega⟩
      | exact finc
      | exact ⟨⟨trivial, rfl, fun i _ => Dat.hok _⟩, show t.windows.length ≤ _ by omega⟩
      | (refine fin (decide_eq_true ?_); exact hat2 (by omega))
      | (refine fin (beq_iff_eq.2 ?_); exact hat2 (by omega))
      | skip
    all_goals have hk2 : k < L.length := (by omega)
    all_goals have hbd := runs_bd hRn hk2
    all_goals obtain ⟨g1, g2, g3⟩ := runs_get hRn hk2
    all_goals have hA2 : A = (L.getD k Dat.d0).frm := hat hk2
    all_goals have o1 := own_at hR (show 0 ≤ (L.getD k Dat.d0).frm by omega) (by omega)
    all_goals have o2 := own_at hR (show 0 ≤ A + (L.getD k Dat.d0).long - 1 by omega) (by omega)
    all_goals rw [g2 _ (Int.le_refl _) (by omega)] at o1
    all_goals rw [g2 _ (by omega) (by omega)] at o2
    all_goals have hob := ownT_bd hR (L.getD k Dat.d0).frm
    all_goals rw [g2 _ (Int.le_refl _) (by omega)] at hob
    all_goals have ek : ((k : Int) - 1).toNat = k - 1 := (by omega)
    all_goals have hnx2 := hnx hk2
    all_goals try simp only [o1, o2, ek] at *
    all_goals try (
      have hown : ownB (L.getD k Dat.d0).owner = true := ownB_iff.2 ⟨by assumption, hob.2⟩
      have ht0 := (times_rt hR hown).e
      have ht1 := times_len t (L.getD k Dat.d0).owner
      have ht2 := times_count hR hown (show 0 ≤ (L.getD k Dat.d0).frm by omega) (show (L.getD k Dat.d0).frm ≤ A + (L.getD k Dat.d0).long by omega) (by omega) (fun y y1 y2 => g2 y y1 (by omega)))
    all_goals try (rename (_ = timesV _ _) => hq3; subst hq3)
    all_goals try simp only [ht0, ht2] at *
    all_goals first
      | (unfold InR; omega)
      | (exfalso; omega)
      | (exfalso; exact h rfl)
      | (exfalso; exact h trivial)
      | (exfalso; exact g3 (by omega) (by assumption))
      | (exfalso; simp_all; done)
      | exact ⟨⟨trivial, rfl, fun i _ => Dat.hok _⟩, show _ ≤ _ by omega⟩
      | (refine ⟨⟨k + 1, hk2⟩, ?_, ?_, rfl, by (try dsimp only); omega⟩
         · cbv
           repeat' first | (refine Stp.mk ?_; cbv) | (refine Gen.mk fun r hr => ?_; (try simp only [Dat.ok, Dat.dec, Leaf.ok, Leaf.val, Span.eta, Set.eta, Window.eta, Table.eta, Want.eta, val_sl, val_nil] at hr); cbv) | exact trivial | rfl | refine Both.mk ?_ ?_ | (refine Imp.mk fun h => ?_; (try dsimp only at h); (try simp only [nc, Int.toNat_natCast, Bool.not_eq_true', Bool.not_eq_false', decide_eq_true_eq, decide_eq_false_iff_not, beq_iff_eq, beq_eq_false_iff_ne, ba_inj, bne_iff_ne, ne_eq, Bool.and_eq_true, Bool.or_eq_true, Bool.and_eq_false_iff, Bool.or_eq_false_iff, Int.not_le, Int.not_lt, Nat.not_le, Nat.not_lt] at h); (try simp only [nc] at h)) | refine Ob.mk ?_ ?_ | refine Chk.mk (by kernel_rfl) ?_ | refine Eq'.mk ?_ | (refine AllN.mk fun i hi => ?_; cbv) | (refine AllS.mk fun r hr => ?_; (try simp only [Dat.ok, Dat.dec, Leaf.ok, Leaf.val, Span.eta, Set.eta, Window.eta, Table.eta, Want.eta, val_sl] at hr); cbv)
           all_goals first | rfl | (show _ = atT frm L (k + 1) to; omega)
         · cbv
           repeat' first | (refine Stp.mk ?_; cbv) | (refine Gen.mk fun r hr => ?_; (try simp only [Dat.ok, Dat.dec, Leaf.ok, Leaf.val, Span.eta, Set.eta, Window.eta, Table.eta, Want.eta, val_sl, val_nil] at hr); cbv) | exact trivial | rfl | refine Both.mk ?_ ?_ | (refine Imp.mk fun h => ?_; (try dsimp only at h); (try simp only [nc, Int.toNat_natCast, Bool.not_eq_true', Bool.not_eq_false', decide_eq_true_eq, decide_eq_false_iff_not, beq_iff_eq, beq_eq_false_iff_ne, ba_inj, bne_iff_ne, ne_eq, Bool.and_eq_true, Bool.or_eq_true, Bool.and_eq_false_iff, Bool.or_eq_false_iff, Int.not_le, Int.not_lt, Nat.not_le, Nat.not_lt] at h); (try simp only [nc] at h)) | refine Ob.mk ?_ ?_ | refine Chk.mk (by kernel_rfl) ?_ | refine Eq'.mk ?_ | (refine AllN.mk fun i hi => ?_; cbv) | (refine AllS.mk fun r hr => ?_; (try simp only [Dat.ok, Dat.dec, Leaf.ok, Leaf.val, Span.eta, Set.eta, Window.eta, Table.eta, Want.eta, val_sl] at hr); cbv))
      | fail
section
open Go.ChangeShapes Go.WideShapes Go.ChangeAt Go.RowKit Go.Joins Go.Deep
set_option linter.unusedVariables false
theorem tbturn_own : ownKnob Try.prog.godebug = none := by kernel_rfl
theorem tbturn_laidOut : laidOutB Try.prog = true := by kernel_rfl
theorem tbturn_readOk {ts : Array TypeId} (h : ts.toList.all (fun t => Try.prog.readableRec t && decide (t < Try.prog.types.size)) = true) : ∀ t ∈ ts.toList, Try.prog.readableRec t = true ∧ t < Try.prog.types.size := fun t ht => by
  have := List.all_eq_true.1 h t ht
  simpa using this
mutual
theorem tbturn_bD {H : Type} : ∀ d : DataW H, Rows.uptoBulk d = bulkD d
  | .lit l => by cases l <;> simp [Rows.uptoBulk, bulkD]
  | .nil => by simp [Rows.uptoBulk, bulkD]
  | .ptr d => by simp [Rows.uptoBulk, bulkD, tbturn_bD d]
  | .slice a b => by simp [Rows.uptoBulk, bulkD, tbturn_bL a, tbturn_bL b]
  | .agg a => by simp [Rows.uptoBulk, bulkD, tbturn_bL a]
  | .iface _ d => by simp [Rows.uptoBulk, bulkD, tbturn_bD d]
  | .map e => by simp [Rows.uptoBulk, bulkD, tbturn_bE e]
  | .held _ => by simp [Rows.uptoBulk, bulkD]
theorem tbturn_bL {H : Type} : ∀ d : List (DataW H), Rows.uptoBulkAll d = bulkL d
  | [] => by simp [Rows.uptoBulkAll, bulkL]
  | d :: r => by simp [Rows.uptoBulkAll, bulkL, tbturn_bD d, tbturn_bL r]
theorem tbturn_bE {H : Type} : ∀ d : List (Lit × DataW H), Rows.uptoBulkEntries d = bulkE d
  | [] => by simp [Rows.uptoBulkEntries, bulkE]
  | d :: r => by simp [Rows.uptoBulkEntries, bulkE, tbturn_bX d, tbturn_bE r]
theorem tbturn_bX {H : Type} : ∀ d : Lit × DataW H, Rows.uptoBulkEntry d = bulkX d
  | (l, d) => by cases l <;> simp [Rows.uptoBulkEntry, bulkX, tbturn_bD d]
end
set_option maxRecDepth 100000 in
theorem tbturn_lifted (os : Os) (started : os.Started) (H : Type) (enc : TypeId × Value → H) (F : Stop.Interp) :
    ReturnsInHanded {} Try.checked os 5 .any ((Rows.OpenSpec.upto Rows.tableTurnSpec).pre6 enc Try.prog Try.f5 Rows.tableTurnUptoRow.domain false) (((Rows.OpenSpec.upto Rows.tableTurnSpec).at F).post enc Try.prog Try.f5 false true false false) := by
  refine returnsInHanded_of_cond (C := Try.checked) (s := Rows.OpenSpec.upto Rows.tableTurnSpec) (k := Rows.uptoSmall) rfl tbturn_own started (by kernel_rfl) Try.func5
    (OpenSpec.witness (enc := enc) (C := Try.checked) (s := Rows.OpenSpec.upto Rows.tableTurnSpec) (k := Rows.uptoSmall) rfl false ⟨#[], #[.agg #[.int .i64 0, .slice none 0 0], .int .i64 0, .int .i64 0], []⟩ 8 (by kernel_rfl) (by kernel_rfl) (by kernel_rfl)
      (x := ([.agg [.lit (.int .i64 0), .nil], .lit (.int .i64 0), .lit (.int .i64 0)], [], [])) (by kernel_rfl) rfl (by kernel_rfl)) ?_
  intro W base args ds gs before hval0 hW _ hk _
  show Calls Try.prog 5 args W fun e W' => ∃ v, e = .returned v ∧ Rows.tableTurnSpec.post enc Try.prog Try.f5 false true false false W args v W'
  have hval : ∀ (j : Nat) t v, Try.f5.params[j]? = some t → args[j]? = some v → Value.okWide Try.prog W .any base t v := hval0
  have hW' := hW
  have hlt := hW.lt
  obtain ⟨p, q, hA0, hV, rfl, hfz, hnd⟩ := hW
  have hA : DataW.TrodAll enc Try.prog W 0 (fun _ => true) true Try.f5.params.toList args.toList ds p := hA0
  have hA1 := hA
  rw [Try.params5] at hA hval
  obtain ⟨v0, vs0, d0, ds0, p0, q0, hargs, rfl, rfl, h0, r0⟩ := trodAll_cons hA
  obtain ⟨v1, vs1, d1, ds1, p1, q1, rfl, rfl, rfl, h1, r1⟩ := trodAll_cons r0
  obtain ⟨v2, vs2, d2, ds2, p2, q2, rfl, rfl, rfl, h2, r2⟩ := trodAll_cons r1
  obtain ⟨rfl, rfl, rfl⟩ := trodAll_nil r2
  obtain rfl : args = #[v0, v1, v2] := by cases args; simp_all
  obtain ⟨rfl, rfl⟩ := trodVars_none hV
  obtain ⟨cs0, rfl, _⟩ := okWide_struct Try.underlying24 (hval 0 24 v0 rfl rfl)
  obtain ⟨y0, u0, b0, e0⟩ := arg_agg (α := Table) opn_Table h0
  obtain ⟨z1, rfl⟩ := okWide_int Try.underlying3 (hval 1 3 v1 rfl rfl)
  obtain ⟨y1, u1, b1, e1⟩ := arg_leaf (α := Int) (opn_int Try.underlying3) rfl h1
  obtain ⟨z2, rfl⟩ := okWide_int Try.underlying3 (hval 2 3 v2 rfl rfl)
  obtain ⟨y2, u2, b2, e2⟩ := arg_leaf (α := Int) (opn_int Try.underlying3) rfl h2
  have hB : Siz.bulk y0 + Siz.bulk y1 + Siz.bulk y2 ≤ 1048576 := by
    have h := of_decide_eq_true hk
    rw [tbturn_bL] at h
    simp only [List.append_nil, bulkL] at h
    omega
  have hR := repL_cons (M := fun _ => False) (β := fun _ => none) (cp := fun _ => 0) (.c e0) (repL_cons (M := fun _ => False) (β := fun _ => none) (cp := fun _ => 0) (.c e1) (repL_cons (M := fun _ => False) (β := fun _ => none) (cp := fun _ => 0) (.c e2) (repL_nil)))
  refine (law_callsA (tbturn_vc y0 y1 y2 u0 u1 u2 hB) hR).mono fun e W' ⟨he, bel⟩ => ?_
  subst he
  exact ⟨_, rfl, _, _, _, [], _, [], hW', trodAll_mk1 (shut_bool Try.underlying4 _), trodAll_below tbturn_laidOut bel (tbturn_readOk (by kernel_rfl)) (fun x hx => hlt x (List.mem_append_left _ hx)) hA1, rfl, bel.frame _, fun h => by cases h⟩
theorem TableTurn_proved : Rows.TableTurnUptoSaid :=
  OpenClaim.holds_of_cond 5 Try.f5 rfl rfl rfl rfl rfl rfl rfl ⟨rfl, rfl, rfl, rfl, rfl⟩ rfl rfl rfl rfl rfl (by kernel_rfl) Try.func5 (by kernel_rfl)
    (of_decide_eq_true (by kernel_rfl)) (by unfold Func.isWrapper; first | (rw [if_pos (by decide +kernel)]; kernel_rfl) | (rw [if_neg (by decide +kernel)]; exact ⟨rfl, rfl⟩))
    (fun os started H enc _ F => tbturn_lifted os started H enc F)
end

end Go.Proofs.Ytadjemhbfaonbaa
