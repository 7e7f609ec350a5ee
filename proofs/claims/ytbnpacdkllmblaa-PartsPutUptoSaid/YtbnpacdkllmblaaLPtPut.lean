/- Numbers in two lots are both at once; whoever isn't fed is none the other; for all inputs. -/
import Derived.Test.YtbnpacdkllmblaaPutP
import Derived.Test.YtbnpacdkllmblaaAbsG4
import Derived.Test.YtbnpacdkllmblaaAbsG3
set_option linter.all false
namespace Go.Proofs.Ytbnpacdkllmblaa
open Go Go.Abs

attribute [local irreducible] runPV putV
noncomputable def cPtP : FuncId → Con := fun f => match f with
  | 30 => frzCon (detPC putC_D)
  | 18 => pureCon (detPC runC_D)
  | 20 => pureCon (detPC feedC_D)
  | 10 => pureCon (detPC ptLives_D)
  | 19 => pureCon (detPC sameM_D)
  | 22 => pureCon (detPC sameP_D)
  | 26 => pureCon clInt_C
  | _ => fun _ _ _ => Bad 1001
theorem cPtP_ok : ConOk Try.prog cPtP := fun f A H K h => by
  unfold cPtP at h
  split at h
  · exact ⟨⟨Try.f30, Try.func30, by kernel_rfl, by kernel_rfl⟩, frzCon_ok putC_ok h⟩
  · exact ⟨⟨Try.f18, Try.func18, by kernel_rfl, by kernel_rfl⟩, pureCon_ok runC_ok h⟩
  · exact ⟨⟨Try.f20, Try.func20, by kernel_rfl, by kernel_rfl⟩, pureCon_ok feedC_ok h⟩
  · exact ⟨⟨Try.f10, Try.func10, by kernel_rfl, by kernel_rfl⟩, pureCon_ok ptLives_ok h⟩
  · exact ⟨⟨Try.f19, Try.func19, by kernel_rfl, by kernel_rfl⟩, pureCon_ok sameM_ok h⟩
  · exact ⟨⟨Try.f22, Try.func22, by kernel_rfl, by kernel_rfl⟩, pureCon_ok sameP_ok h⟩
  · exact ⟨⟨Try.f26, Try.func26, by kernel_rfl, by kernel_rfl⟩, pureCon_ok clInt_ok h⟩
  · cases h
def dPtP : FuncId → Option Dt := fun f => match f with
  | 22 => some (.c sameP_D)
  | _ => none
theorem dPtP_ok : DetOk Try.prog dPtP := fun f d h => by
  unfold dPtP at h
  split at h
  · cases h; exact ⟨⟨Try.f22, Try.func22, by kernel_rfl, by kernel_rfl⟩, sameP_ok⟩
  · cases h
structure PfX (n : Nat) where
  k : Nat
  hk : k ≤ n
inductive PutQ (m : Module) (part : Int) (l more : List Int) (n : Int) : Tm → Hp → List Nat → Prop
  | a (x47 : Th Bool) : PutQ m part l more n [(0, .agg (Dat.enc fun _ => m)), (1, .i .i64 fun _ => part), (2, .sl 1 (fun _ => l.length) fun i => Dat.enc fun _ => l.getD (i ()) Dat.d0), (3, .sl 1 (fun _ => more.length) fun i => Dat.enc fun _ => more.getD (i ()) Dat.d0), (4, .i .i64 fun _ => n), (5, .ptr 0 0), (10, .bc false), (11, .ptr 1 0), (12, .i .i64 fun _ => (putV m part l).2), (13, .ptr 2 0), (14, .i .i64 fun _ => (putV (putV m part l).1 part more).2), (15, .ptr 4 0), (16, .i .i64 fun _ => (putV m part (l ++ more)).2), (17, .any), (18, .any), (19, .any), (20, .any), (21, .any), (22, .any), (23, .any), (47, .b x47), (66, .any), (84, .any), (87, .any), (88, .any), (89, .any), (119, .any)] [.blk (Dat.enc fun _ => m), .blk (Dat.enc fun _ => (putV m part l).1), .blk (Dat.enc fun _ => (putV (putV m part l).1 part more).1), .dead, .blk (Dat.enc fun _ => (putV m part (l ++ more)).1)] [3]
  | b (x47 : Th Bool) : PutQ m part l more n [(0, .agg (Dat.enc fun _ => m)), (1, .i .i64 fun _ => part), (2, .sl 1 (fun _ => l.length) fun i => Dat.enc fun _ => l.getD (i ()) Dat.d0), (3, .sl 1 (fun _ => more.length) fun i => Dat.enc fun _ => more.getD (i ()) Dat.d0), (4, .i .i64 fun _ => n), (5, .ptr 0 0), (10, .bc false), (11, .ptr 1 0), (12, .i .i64 fun _ => (putV m part l).2), (13, .ptr 2 0), (14, .i .i64 fun _ => (putV (putV m part l).1 part more).2), (15, .ptr 3 0), (16, .i .i64 fun _ => (putV m part (l ++ more)).2), (17, .any), (18, .any), (19, .any), (20, .any), (21, .any), (22, .any), (23, .any), (47, .b x47), (66, .any), (84, .any), (87, .any), (88, .any), (89, .any), (119, .any)] [.blk (Dat.enc fun _ => m), .blk (Dat.enc fun _ => (putV m part l).1), .blk (Dat.enc fun _ => (putV (putV m part l).1 part more).1), .blk (Dat.enc fun _ => (putV m part (l ++ more)).1), .dead] [4]
set_option maxRecDepth 100000 in
set_option maxHeartbeats 4000000 in
theorem ptput_vc (m : Module) (part : Int) (l : (List Int)) (more : (List Int)) (n : Int) (fit_m : Siz.fit m) (fit_part : Siz.fit part) (fit_l : Siz.fit l) (fit_more : Siz.fit more) (fit_n : Siz.fit n) (hB : Siz.bulk m + Siz.bulk part + Siz.bulk l + Siz.bulk more + Siz.bulk n ≤ 1048576) : FnOk Try.prog 8 [.agg (Dat.enc fun _ => m), .i .i64 fun _ => part, Leaf.av fun _ => l, Leaf.av fun _ => more, .i .i64 fun _ => n] [] (outA (.bc true) []) := by
  refine fn_ok envOk zl cPtP_ok (pickD_ok (p := fun ops => Nat.beq (len ops) 13) (cutD_ok (keep := [0, 1, 2, 3, 4, 5, 10, 11, 12, 13, 14, 15, 16, 17, 18, 19, 20, 21, 22, 23, 47, 66, 84, 87, 88, 89, 119]) (P := (PutQ m part l more n)) (eagOrd_ok envOk zl cPtP_ok mixed)) (draws_ok envOk zl dPtP_ok mixed)) (keep := [0, 1, 2, 3, 4, 5, 10, 11, 12, 13, 14, 15, 16, 17, 18, 19, 20, 21, 22, 23, 47, 66, 84, 87, 88, 89, 119]) Try.func8 rfl ?_
  have fin := @fin_b
  have finc := @fin_t
  have hpm := fit_pre fit_m
  have hlb : l.length ≤ 1048576 ∧ more.length ≤ 1048576 := by
    have h1 := bulk_len (α := Int) (fun _ => Nat.le_add_left _ _) l
    have h2 := bulk_len (α := Int) (fun _ => Nat.le_add_left _ _) more
    simp only [Siz.bulk] at hB h1 h2
    omega
  clear hB
  generalize outA (.bc true) [] = K at fin finc
  cbv
  repeat' first | (show Stp _; exfalso; first | omega | (exact h ‹_›) | (exact absurd ‹_› h) | (exact Bool.false_ne_true (h.symm.trans (show _ = true by assumption)))) | (refine Stp.mk ?_; cbv) | (refine Gen.mk fun r hr => ?_; (try simp only [Dat.ok, Dat.dec, Leaf.ok, Leaf.val, Z0, Z1, Z2, Z3, Z4, Z5, Z6, Z7, val_sl, val_nil] at hr); cbv) | exact trivial | rfl | refine Both.mk ?_ ?_ | (refine Imp.mk fun h => ?_; (try dsimp only at h); (try simp only [nc, Int.toNat_natCast, ne_eq, zz] at h); (try simp only [nc] at h)) | refine Ob.mk ?_ ?_ | refine Chk.mk (by kernel_rfl) ?_ | refine Eq'.mk ?_ | (refine AllN.mk fun i hi => ?_; cbv) | (refine AllC.mk fun c hc hcm => ?_; (try dsimp only at hc); cbv) | (refine AllS.mk fun r hr => ?_; (try simp only [Dat.ok, Dat.dec, Leaf.ok, Leaf.val, Z0, Z1, Z2, Z3, Z4, Z5, Z6, Z7, val_sl] at hr); cbv)
  all_goals ((try dsimp only at *); (try simp only [nc, Int.toNat_natCast, ne_eq, zz] at *); (try simp only [nc] at *))
  all_goals try simp only [Dat.dec, Leaf.val, Z0, Z1, Z2, Z3, Z4, Z5, Z6, Z7, val_sl, val_app (α := Int) _ _ 1 _ _ rfl rfl rfl] at *
  all_goals have e40 : maxLen ≤ 9223372036854775807 := by unfold maxLen; decide
  all_goals try have lm : more.length ≤ 9223372036854775807 := by omega
  all_goals try have ll : l.length ≤ 9223372036854775807 := by omega
  all_goals try first
    | exact ⟨Dat.hok fun _ => m, ⟨rfl, fun i _ => Dat.hok _⟩, hpm, ll⟩
    | exact ⟨Dat.hok fun _ => (putV m part l).1, ⟨rfl, fun i _ => Dat.hok _⟩, put_pre _ _ _, lm⟩
    | exact finc
    | exact ⟨⟨rfl, fun i _ => Dat.hok _⟩, ll⟩
    | exact ⟨Dat.hok fun _ => m, hpm⟩
    | exact ⟨Dat.hok fun _ => (putV (putV m part l).1 part more).1, put_pre _ _ _⟩
  all_goals try (have hr9 := hr.symm; clear hr; subst hr9)
  all_goals try first
    | exact .a _
    | exact .b _
    | exact Nat.le_refl _
    | exact ⟨Nat.le_refl _, trivial, by omega, by omega, Nat.le_refl _⟩
    | exact ⟨⟨rfl, fun i _ => Dat.hok _⟩, show _ ≤ _ by omega⟩
    | exact ⟨⟨rfl, fun i _ => Dat.hok _⟩, show (_ : Nat) ≤ _ by simp only [] at *; omega⟩
    | (refine ⟨⟨rfl, fun i _ => Dat.hok _⟩, ?_⟩
       unfold clInt_P
       omega)
    | (refine ⟨Dat.hok fun _ => m, ⟨rfl, fun i _ => (Dat.hpick _ _ _ (Dat.hok _) (Dat.hok _)).1⟩, hpm, ?_⟩
       rw [List.length_append]; omega)
  have P0 : (putV m part l).2 = 0 := by assumption
  have P1 : (putV (putV m part l).1 part more).2 = 0 := by assumption
  have EP := put_put P0 P1
  intro s h kl hP
  cases hP
  all_goals (
    cbv
    repeat' first | (show Stp _; exfalso; first | omega | (exact h ‹_›) | (exact absurd ‹_› h) | (exact Bool.false_ne_true (h.symm.trans (show _ = true by assumption)))) | (refine Stp.mk ?_; cbv) | (refine Gen.mk fun r hr => ?_; (try simp only [Dat.ok, Dat.dec, Leaf.ok, Leaf.val, Z0, Z1, Z2, Z3, Z4, Z5, Z6, Z7, val_sl, val_nil] at hr); cbv) | exact trivial | rfl | refine Both.mk ?_ ?_ | (refine Imp.mk fun h => ?_; (try dsimp only at h); (try simp only [nc, Int.toNat_natCast, ne_eq, zz] at h); (try simp only [nc] at h)) | refine Ob.mk ?_ ?_ | refine Chk.mk (by kernel_rfl) ?_ | refine Eq'.mk ?_ | (refine AllN.mk fun i hi => ?_; cbv) | (refine AllC.mk fun c hc hcm => ?_; (try dsimp only at hc); cbv) | (refine AllS.mk fun r hr => ?_; (try simp only [Dat.ok, Dat.dec, Leaf.ok, Leaf.val, Z0, Z1, Z2, Z3, Z4, Z5, Z6, Z7, val_sl] at hr); cbv)
    all_goals ((try dsimp only at *); (try simp only [nc, Int.toNat_natCast, ne_eq, zz] at *); (try simp only [nc] at *))
    all_goals try simp only [Dat.dec, Leaf.val, Z0, Z1, Z2, Z3, Z4, Z5, Z6, Z7, val_sl] at *)
  all_goals try first
    | exact finc
    | (exfalso
       have h9 : ¬ (putV m part (l ++ more)).2 = 0 := by assumption
       rw [EP] at h9
       exact absurd P1 h9)
    | (exfalso
       have h9 : sameM_S (putV (putV m part l).1 part more).1 (putV m part (l ++ more)).1 = false := by assumption
       refine absurd ?_ (of_decide_eq_false h9)
       rw [EP])
    | exact ⟨Dat.hok fun _ => (putV (putV m part l).1 part more).1, Dat.hok fun _ => (putV m part (l ++ more)).1, (put_pre _ _ _).1, (put_pre _ _ _).2.1, (put_pre _ _ _).2.2.1, (put_pre _ _ _).2.2.2⟩
  all_goals try first
    | exact ⟨Dat.hok fun _ => m, hpm⟩
    | exact ⟨Dat.hok fun _ => (putV (putV m part l).1 part more).1, put_pre _ _ _⟩
  all_goals (
    have R0 : (runPV m n).2 = 0 := by assumption
    have R1 : (runPV (putV (putV m part l).1 part more).1 n).2 = 0 := by assumption
    have hb := of_decide_eq_true (put_ok P0).2.1
    have L0 := run_part R0
    have L1 : (runPV (putV (putV m part l).1 part more).1 n).1.parts.length = m.parts.length := (run_part R1).trans (put_len P0 P1)
    have p1 := fun p hp => ok_len (prt_iff.1 ((run_mok R0).p p hp))
    have PR := fun q hq hF => put_run (q := q) P0 P1 hq hF R0 R1
    have FE := fun q hq => feeds_at (k := q) (put_ok P0).1 hq
    revert L0 L1 p1 PR
    generalize (runPV (putV (putV m part l).1 part more).1 n).1 = c
    generalize (runPV m n).1 = a
    intro L0 L1 p1 PR
    first
      | refine LoopVC.frame [10, 21, 22, 23, 88, 89, 119] (PfX m.parts.length) (fun x => [(88, .i .i64 fun _ => x.k)]) (fun _ => []) [3] (fun x => m.parts.length - x.k) ⟨0, Nat.zero_le _⟩ rfl (fun _ => rfl) ?_ ?_ fun ⟨k, hk⟩ => ?_
      | refine LoopVC.frame [10, 21, 22, 23, 88, 89, 119] (PfX m.parts.length) (fun x => [(88, .i .i64 fun _ => x.k)]) (fun _ => []) [4] (fun x => m.parts.length - x.k) ⟨0, Nat.zero_le _⟩ rfl (fun _ => rfl) ?_ ?_ fun ⟨k, hk⟩ => ?_
    iterate 2
      · cbv
        repeat' first | (refine Stp.mk ?_; cbv) | (refine Gen.mk fun r hr => ?_; (try simp only [Dat.ok, Dat.dec, Leaf.ok, Leaf.val, Z0, Z1, Z2, Z3, Z4, Z5, Z6, Z7, val_sl, val_nil] at hr); cbv) | exact trivial | rfl | refine Both.mk ?_ ?_ | (refine Imp.mk fun h => ?_; (try dsimp only at h); (try simp only [nc, Int.toNat_natCast, ne_eq, zz] at h); (try simp only [nc] at h)) | refine Ob.mk ?_ ?_ | refine Chk.mk (by kernel_rfl) ?_ | refine Eq'.mk ?_ | (refine AllN.mk fun i hi => ?_; cbv) | (refine AllC.mk fun c hc hcm => ?_; (try dsimp only at hc); cbv) | (refine AllS.mk fun r hr => ?_; (try simp only [Dat.ok, Dat.dec, Leaf.ok, Leaf.val, Z0, Z1, Z2, Z3, Z4, Z5, Z6, Z7, val_sl] at hr); cbv)
    have FEk := FE k
    have lp := (mchk_iff.1 (put_ok P0).1).lp
    have FL : k < m.parts.length → (feedsV m k).1.length = m.parts.length := fun h => (feeds_ok (FE k h)).2.2.1
    have PRk := PR k
    cbv
    repeat' first | (show Stp _; exfalso; first | omega | (exact h ‹_›) | (exact absurd ‹_› h) | (exact Bool.false_ne_true (h.symm.trans (show _ = true by assumption)))) | (refine Stp.mk ?_; cbv) | (refine Gen.mk fun r hr => ?_; (try simp only [Dat.ok, Dat.dec, Leaf.ok, Leaf.val, Z0, Z1, Z2, Z3, Z4, Z5, Z6, Z7, val_sl, val_nil] at hr); cbv) | exact trivial | rfl | refine Both.mk ?_ ?_ | (refine Imp.mk fun h => ?_; (try dsimp only at h); (try simp only [nc, Int.toNat_natCast, ne_eq, zz] at h); (try simp only [nc] at h)) | refine Ob.mk ?_ ?_ | refine Chk.mk (by kernel_rfl) ?_ | refine Eq'.mk ?_ | (refine AllN.mk fun i hi => ?_; cbv) | (refine AllC.mk fun c hc hcm => ?_; (try dsimp only at hc); cbv) | (refine AllS.mk fun r hr => ?_; (try simp only [Dat.ok, Dat.dec, Leaf.ok, Leaf.val, Z0, Z1, Z2, Z3, Z4, Z5, Z6, Z7, val_sl] at hr); cbv)
    all_goals ((try dsimp only at *); (try simp only [nc, Int.toNat_natCast, ne_eq, zz] at *); (try simp only [nc] at *))
    all_goals try rw [nc] at *
    all_goals try simp only [Dat.dec, Leaf.val, Z0, Z1, Z2, Z3, Z4, Z5, Z6, Z7, val_sl] at *
    all_goals first
      | omega
      | (unfold InR; omega)
      | exact ⟨by omega, by omega⟩
      | exact finc
      | exact ⟨Dat.hok fun _ => m, hpm⟩
      | exact ⟨by omega, by rw [FL (by omega)]; omega⟩
      | exact ⟨Dat.hok fun _ => a.parts.getD k Dat.d0, Dat.hok fun _ => c.parts.getD k Dat.d0, p1 _ (getD_mem (by omega))⟩
      | (exfalso
         exact absurd (FEk (by omega)) (by assumption))
      | (exfalso
         have h9 : sameP_S (a.parts.getD k Dat.d0) (c.parts.getD k Dat.d0) = false := by assumption
         exact of_decide_eq_false h9 (PRk (by omega) (by assumption)))
      | (refine ⟨⟨k + 1, by omega⟩, ?_, ?_, rfl, by (try dsimp only); omega⟩
         · cbv
           repeat' first | (refine Stp.mk ?_; cbv) | (refine Gen.mk fun r hr => ?_; (try simp only [Dat.ok, Dat.dec, Leaf.ok, Leaf.val, Z0, Z1, Z2, Z3, Z4, Z5, Z6, Z7, val_sl, val_nil] at hr); cbv) | exact trivial | rfl | refine Both.mk ?_ ?_ | (refine Imp.mk fun h => ?_; (try dsimp only at h); (try simp only [nc, Int.toNat_natCast, ne_eq, zz] at h); (try simp only [nc] at h)) | refine Ob.mk ?_ ?_ | refine Chk.mk (by kernel_rfl) ?_ | refine Eq'.mk ?_ | (refine AllN.mk fun i hi => ?_; cbv) | (refine AllC.mk fun c hc hcm => ?_; (try dsimp only at hc); cbv) | (refine AllS.mk fun r hr => ?_; (try simp only [Dat.ok, Dat.dec, Leaf.ok, Leaf.val, Z0, Z1, Z2, Z3, Z4, Z5, Z6, Z7, val_sl] at hr); cbv)
         · cbv
           repeat' first | (refine Stp.mk ?_; cbv) | (refine Gen.mk fun r hr => ?_; (try simp only [Dat.ok, Dat.dec, Leaf.ok, Leaf.val, Z0, Z1, Z2, Z3, Z4, Z5, Z6, Z7, val_sl, val_nil] at hr); cbv) | exact trivial | rfl | refine Both.mk ?_ ?_ | (refine Imp.mk fun h => ?_; (try dsimp only at h); (try simp only [nc, Int.toNat_natCast, ne_eq, zz] at h); (try simp only [nc] at h)) | refine Ob.mk ?_ ?_ | refine Chk.mk (by kernel_rfl) ?_ | refine Eq'.mk ?_ | (refine AllN.mk fun i hi => ?_; cbv) | (refine AllC.mk fun c hc hcm => ?_; (try dsimp only at hc); cbv) | (refine AllS.mk fun r hr => ?_; (try simp only [Dat.ok, Dat.dec, Leaf.ok, Leaf.val, Z0, Z1, Z2, Z3, Z4, Z5, Z6, Z7, val_sl] at hr); cbv))
      | fail)
  all_goals fail
section
open Go.ChangeShapes Go.WideShapes Go.ChangeAt Go.RowKit Go.Joins Go.Deep
set_option linter.unusedVariables false
theorem ptput_own : ownKnob Try.prog.godebug = none := by kernel_rfl
theorem ptput_laidOut : laidOutB Try.prog = true := by kernel_rfl
theorem ptput_readOk {ts : Array TypeId} (h : ts.toList.all (fun t => Try.prog.readableRec t && decide (t < Try.prog.types.size)) = true) : ∀ t ∈ ts.toList, Try.prog.readableRec t = true ∧ t < Try.prog.types.size := fun t ht => by
  have := List.all_eq_true.1 h t ht
  simpa using this
mutual
theorem ptput_bD {H : Type} : ∀ d : DataW H, Rows.uptoBulk d = bulkD d
  | .lit l => by cases l <;> simp [Rows.uptoBulk, bulkD]
  | .nil => by simp [Rows.uptoBulk, bulkD]
  | .ptr d => by simp [Rows.uptoBulk, bulkD, ptput_bD d]
  | .slice a b => by simp [Rows.uptoBulk, bulkD, ptput_bL a, ptput_bL b]
  | .agg a => by simp [Rows.uptoBulk, bulkD, ptput_bL a]
  | .iface _ d => by simp [Rows.uptoBulk, bulkD, ptput_bD d]
  | .map e => by simp [Rows.uptoBulk, bulkD, ptput_bE e]
  | .held _ => by simp [Rows.uptoBulk, bulkD]
theorem ptput_bL {H : Type} : ∀ d : List (DataW H), Rows.uptoBulkAll d = bulkL d
  | [] => by simp [Rows.uptoBulkAll, bulkL]
  | d :: r => by simp [Rows.uptoBulkAll, bulkL, ptput_bD d, ptput_bL r]
theorem ptput_bE {H : Type} : ∀ d : List (Lit × DataW H), Rows.uptoBulkEntries d = bulkE d
  | [] => by simp [Rows.uptoBulkEntries, bulkE]
  | d :: r => by simp [Rows.uptoBulkEntries, bulkE, ptput_bX d, ptput_bE r]
theorem ptput_bX {H : Type} : ∀ d : Lit × DataW H, Rows.uptoBulkEntry d = bulkX d
  | (l, d) => by cases l <;> simp [Rows.uptoBulkEntry, bulkX, ptput_bD d]
end
set_option maxRecDepth 100000 in
theorem ptput_lifted (os : Os) (started : os.Started) (H : Type) (enc : TypeId × Value → H) (F : Stop.Interp) :
    ReturnsInHanded {} Try.checked os 8 .any ((Rows.OpenSpec.upto Rows.partsPutSpec).pre6 enc Try.prog Try.f8 Rows.partsPutUptoRow.domain false) (((Rows.OpenSpec.upto Rows.partsPutSpec).at F).post enc Try.prog Try.f8 false true false false) := by
  refine returnsInHanded_of_cond (C := Try.checked) (s := Rows.OpenSpec.upto Rows.partsPutSpec) (k := Rows.uptoSmall) rfl ptput_own started (by kernel_rfl) Try.func8
    (OpenSpec.witness (enc := enc) (C := Try.checked) (s := Rows.OpenSpec.upto Rows.partsPutSpec) (k := Rows.uptoSmall) rfl false ⟨#[], #[.agg #[.int .i64 0, .slice none 0 0, .slice none 0 0, .slice none 0 0, .int .i64 0, .int .i64 0], .int .i64 0, .slice none 0 0, .slice none 0 0, .int .i64 0], []⟩ 8 (by kernel_rfl) (by kernel_rfl) (by kernel_rfl)
      (x := ([.agg [.agg [.lit (.int .i64 0), .nil], .nil, .nil, .lit (.int .i64 0), .lit (.int .i64 0)], .lit (.int .i64 0), .nil, .nil, .lit (.int .i64 0)], [], [])) (by kernel_rfl) rfl (by kernel_rfl)) ?_
  intro W base args ds gs before hval0 hW _ hk _
  show Calls Try.prog 8 args W fun e W' => ∃ v, e = .returned v ∧ Rows.partsPutSpec.post enc Try.prog Try.f8 false true false false W args v W'
  have hval : ∀ (j : Nat) t v, Try.f8.params[j]? = some t → args[j]? = some v → Value.okWide Try.prog W .any base t v := hval0
  have hW' := hW
  have hlt := hW.lt
  obtain ⟨p, q, hA0, hV, rfl, hfz, hnd⟩ := hW
  have hA : DataW.TrodAll enc Try.prog W 0 (fun _ => true) true Try.f8.params.toList args.toList ds p := hA0
  have hA1 := hA
  rw [Try.params8] at hA hval
  obtain ⟨v0, vs0, d0, ds0, p0, q0, hargs, rfl, rfl, h0, r0⟩ := trodAll_cons hA
  obtain ⟨v1, vs1, d1, ds1, p1, q1, rfl, rfl, rfl, h1, r1⟩ := trodAll_cons r0
  obtain ⟨v2, vs2, d2, ds2, p2, q2, rfl, rfl, rfl, h2, r2⟩ := trodAll_cons r1
  obtain ⟨v3, vs3, d3, ds3, p3, q3, rfl, rfl, rfl, h3, r3⟩ := trodAll_cons r2
  obtain ⟨v4, vs4, d4, ds4, p4, q4, rfl, rfl, rfl, h4, r4⟩ := trodAll_cons r3
  obtain ⟨rfl, rfl, rfl⟩ := trodAll_nil r4
  obtain rfl : args = #[v0, v1, v2, v3, v4] := by cases args; simp_all
  obtain ⟨rfl, rfl⟩ := trodVars_none hV
  obtain ⟨cs0, rfl, _⟩ := okWide_struct Try.underlying28 (hval 0 28 v0 rfl rfl)
  obtain ⟨y0, u0, b0, e0⟩ := arg_agg (α := Module) opn_Module h0
  obtain ⟨z1, rfl⟩ := okWide_int Try.underlying3 (hval 1 3 v1 rfl rfl)
  obtain ⟨y1, u1, b1, e1⟩ := arg_leaf (α := Int) (opn_int Try.underlying3) rfl h1
  obtain ⟨z2, z'2, z''2, rfl⟩ := okWide_slice Try.underlying41 (hval 2 41 v2 rfl rfl)
  obtain ⟨y2, u2, b2, e2⟩ := arg_leaf (α := (List Int)) (opn_slice Try.underlying41 (by kernel_rfl) (by decide) (opn_int Try.underlying3)) rfl h2
  obtain ⟨z3, z'3, z''3, rfl⟩ := okWide_slice Try.underlying41 (hval 3 41 v3 rfl rfl)
  obtain ⟨y3, u3, b3, e3⟩ := arg_leaf (α := (List Int)) (opn_slice Try.underlying41 (by kernel_rfl) (by decide) (opn_int Try.underlying3)) rfl h3
  obtain ⟨z4, rfl⟩ := okWide_int Try.underlying3 (hval 4 3 v4 rfl rfl)
  obtain ⟨y4, u4, b4, e4⟩ := arg_leaf (α := Int) (opn_int Try.underlying3) rfl h4
  have hB : Siz.bulk y0 + Siz.bulk y1 + Siz.bulk y2 + Siz.bulk y3 + Siz.bulk y4 ≤ 1048576 := by
    have h := of_decide_eq_true hk
    rw [ptput_bL] at h
    simp only [List.append_nil, bulkL] at h
    omega
  have hR := repL_cons (M := fun _ => False) (β := fun _ => none) (cp := fun _ => 0) (.c e0) (repL_cons (M := fun _ => False) (β := fun _ => none) (cp := fun _ => 0) (.c e1) (repL_cons (M := fun _ => False) (β := fun _ => none) (cp := fun _ => 0) (.c e2) (repL_cons (M := fun _ => False) (β := fun _ => none) (cp := fun _ => 0) (.c e3) (repL_cons (M := fun _ => False) (β := fun _ => none) (cp := fun _ => 0) (.c e4) (repL_nil)))))
  refine (law_callsA (ptput_vc y0 y1 y2 y3 y4 u0 u1 u2 u3 u4 hB) hR ⟨fun _ h => h.elim, fun g hg => absurd hg (List.not_mem_nil), trivial⟩).mono fun e W' ⟨he, bel⟩ => ?_
  subst he
  exact ⟨_, rfl, _, _, _, [], _, [], hW', trodAll_mk1 (shut_bool Try.underlying4 _), trodAll_below ptput_laidOut bel (ptput_readOk (by kernel_rfl)) (fun x hx => hlt x (List.mem_append_left _ hx)) hA1, rfl, bel.frame _, fun h => by cases h⟩
theorem PartsPut_proved : Rows.PartsPutUptoSaid :=
  OpenClaim.holds_of_cond 8 Try.f8 rfl rfl rfl rfl rfl rfl rfl ⟨rfl, rfl, rfl, rfl, rfl⟩ rfl rfl rfl rfl rfl (by kernel_rfl) Try.func8 (by kernel_rfl)
    (of_decide_eq_true (by kernel_rfl)) (by unfold Func.isWrapper; first | (rw [if_pos (by decide +kernel)]; kernel_rfl) | (rw [if_neg (by decide +kernel)]; exact ⟨rfl, rfl⟩))
    (fun os started H enc _ F => ptput_lifted os started H enc F)
end

end Go.Proofs.Ytbnpacdkllmblaa
