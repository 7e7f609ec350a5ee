/- It is no matter in what order spans are told, or how they are cut; a set's spans make it; for all inputs. -/
import Derived.Test.YtmicojghbhhblaaOfL
import Derived.Test.YtmicojghbhhblaaAbsFroz
set_option linter.all false
namespace Go.Proofs.Ytmicojghbhhblaa
open Go Go.Abs

theorem bif3f (c d : Bool) (x y z : Span) : (bif c then x.frm else bif d then y.frm else z.frm) = (bif c then x else bif d then y else z).frm := by cases c <;> cases d <;> rfl
theorem bif3t (c d : Bool) (x y z : Span) : (bif c then x.to else bif d then y.to else z.to) = (bif c then x else bif d then y else z).to := by cases c <;> cases d <;> rfl
structure RvX (r : List Span) where
  k : Nat
  v : List Span
  hv : v.Perm r
noncomputable def cSame : FuncId → Con := fun f => match f with
  | 32 => pureCon (detPC eqSp_D)
  | _ => fun _ _ _ => Bad 1001
theorem cSame_ok : ConOk Try.prog cSame := fun f A H K h => by
  unfold cSame at h
  split at h
  · exact ⟨⟨Try.f32, Try.func32, by kernel_rfl, by kernel_rfl⟩, pureCon_ok eqSp_ok h⟩
  · cases h
def ofPF_R (r : Th (Set × Int)) : AV := .tup [.agg [.i .i64 fun _ => (r ()).1.size, Leaf.av fun _ => (r ()).1.spans], .i .i64 fun _ => (r ()).2]
def ofPF_D : Det := fun A => match A with
  | [.i .i64 n, l] => some (fun _ => Leaf.ok (List Span) l ∧ ofP_P (n ()) (Leaf.val l), ofPF_R fun _ => ofV (n ()) (Leaf.val l))
  | _ => none
theorem ofPF_ok : PcOk Try.prog 25 (detPC ofPF_D) := det_okF fun A p r h hp0 => by
  unfold ofPF_D at h
  split at h
  · rename_i n l
    cases h
    obtain ⟨g0, hp⟩ := hp0
    exact FnOk.froz (FnOk.pre (A' := [.i .i64 fun _ => n (), Leaf.av fun _ => (Leaf.val l : (List Span))]) (ofP_vc (n ()) (Leaf.val l) hp) (.mk (.mk (.mk rfl) (.mk rfl)) (.mk (Leaf.hle _ g0) (trivial)))) rfl (q := _) (d := _) rfl (by intro p hp; repeat (first | (cases hp; done) | (rcases List.mem_cons.1 hp with rfl | hp; · exact Nat.le_refl _))) rfl ⟨rfl, rfl⟩
  · cases h
theorem ofPF_okF : ∀ A p r, ofPF_D A = some (p, r) → p () → FrOk Try.prog 25 A r := fun A p r h hp0 => by
  unfold ofPF_D at h
  split at h
  · rename_i n l
    cases h
    obtain ⟨g0, hp⟩ := hp0
    exact FnOk.fresh (A := [.i .i64 n, l]) (FnOk.pre (A' := [.i .i64 fun _ => n (), Leaf.av fun _ => (Leaf.val l : (List Span))]) (ofP_vc (n ()) (Leaf.val l) hp) (.mk (.mk (.mk rfl) (.mk rfl)) (.mk (Leaf.hle _ g0) (trivial)))) rfl (q := _) (d := _) rfl (by intro p hp; repeat (first | (cases hp; done) | (rcases List.mem_cons.1 hp with rfl | hp; · exact Nat.le_refl _))) rfl rfl ⟨.mk fun _ _ => rfl, trivial⟩
  · cases h
def dRv : FuncId → Option Dt := fun f => match f with
  | _ => none
theorem dRv_ok : DetOk Try.prog dRv := fun f d h => by
  unfold dRv at h
  split at h
  · cases h
def dSO : FuncId → Option Dt := fun f => match f with
  | _ => none
theorem dSO_ok : DetOk Try.prog dSO := fun f d h => by
  unfold dSO at h
  split at h
  · cases h
noncomputable def cSO : FuncId → Con := fun f => match f with
  | 25 => frCon ofPF_D
  | 23 => pureCon (detPC spLives_D)
  | 32 => pureCon (detPC eqSp_D)
  | 27 => pureCon clSp_C
  | 29 => pureCon (detPC check_D)
  | 28 => inlCon E noCon (draws E dRv) [0, 2, 3, 9] Try.f28
  | 26 => inlCon E cSame noDraws [0, 1, 2, 3, 4] Try.f26
  | _ => fun _ _ _ => Bad 1001
theorem cSO_ok : ConOk Try.prog cSO := fun f A H K h => by
  unfold cSO at h
  split at h
  · exact ⟨⟨Try.f25, Try.func25, by kernel_rfl, by kernel_rfl⟩, frCon_ok ofPF_okF h⟩
  · exact ⟨⟨Try.f23, Try.func23, by kernel_rfl, by kernel_rfl⟩, pureCon_ok spLives_ok h⟩
  · exact ⟨⟨Try.f32, Try.func32, by kernel_rfl, by kernel_rfl⟩, pureCon_ok eqSp_ok h⟩
  · exact ⟨⟨Try.f27, Try.func27, by kernel_rfl, by kernel_rfl⟩, pureCon_ok clSp_ok h⟩
  · exact ⟨⟨Try.f29, Try.func29, by kernel_rfl, by kernel_rfl⟩, pureCon_ok check_ok h⟩
  · exact ⟨⟨Try.f28, Try.func28, by kernel_rfl, by kernel_rfl⟩, inl_ok envOk zl noCon_ok (draws_ok envOk zl dRv_ok mixed) Try.func28 h⟩
  · exact ⟨⟨Try.f26, Try.func26, by kernel_rfl, by kernel_rfl⟩, inl_ok envOk zl cSame_ok noDraws_ok Try.func26 h⟩
  · cases h


set_option maxRecDepth 100000 in
set_option maxHeartbeats 4000000 in
theorem sof_vc (size : Int) (l : (List Span)) (cutAt : Int) (fit_size : Siz.fit size) (fit_l : Siz.fit l) (fit_cutAt : Siz.fit cutAt) (hB : Siz.bulk size + Siz.bulk l + Siz.bulk cutAt ≤ 1048576) : FnOk Try.prog 11 [.i .i64 fun _ => size, Leaf.av fun _ => l, .i .i64 fun _ => cutAt] [] (outA (.bc true) []) := by
  refine fn_ok envOk zl cSO_ok (draws_ok envOk zl dSO_ok mixed) (keep := [0, 1, 2, 6, 7, 8, 9, 10, 11, 12, 13, 14, 15, 27, 38, 39, 40, 41, 59]) Try.func11 rfl ?_
  have fin := @fin_b
  have finc := @fin_t
  have hp' : l.length ≤ 1048576 := by
    have h1 := bulk_len Span.one_le l
    simp only [Siz.bulk] at hB h1
    omega
  generalize outA (.bc true) [] = K at fin finc
  cbv
  repeat' first | (show Stp _; exfalso; first | omega | (exact h ‹_›) | (exact absurd ‹_› h) | (exact Bool.false_ne_true (h.symm.trans (show _ = true by assumption)))) | (refine Stp.mk ?_; cbv) | (refine Gen.mk fun r hr => ?_; (try simp only [Dat.ok, Dat.dec, Leaf.ok, Leaf.val, Span.eta, Set.eta, val_sl, val_nil] at hr); cbv) | exact trivial | rfl | refine Both.mk ?_ ?_ | (refine Imp.mk fun h => ?_; (try dsimp only at h); (try simp only [nc, Int.toNat_natCast, Bool.not_eq_true', Bool.not_eq_false', decide_eq_true_eq, decide_eq_false_iff_not, beq_iff_eq, beq_eq_false_iff_ne, ba_inj, bne_iff_ne, ne_eq, Bool.and_eq_true, Bool.or_eq_true, Bool.and_eq_false_iff, Bool.or_eq_false_iff, Int.not_le, Int.not_lt, Nat.not_le, Nat.not_lt] at h); (try simp only [nc] at h)) | refine Ob.mk ?_ ?_ | refine Chk.mk (by kernel_rfl) ?_ | refine Eq'.mk ?_ | (refine AllN.mk fun i hi => ?_; cbv) | (refine AllS.mk fun r hr => ?_; (try simp only [Dat.ok, Dat.dec, Leaf.ok, Leaf.val, Span.eta, Set.eta, val_sl] at hr); cbv)
  all_goals ((try dsimp only at *); (try simp only [nc, Int.toNat_natCast, Bool.not_eq_true', Bool.not_eq_false', decide_eq_true_eq, decide_eq_false_iff_not, beq_iff_eq, beq_eq_false_iff_ne, ba_inj, bne_iff_ne, ne_eq, Bool.and_eq_true, Bool.or_eq_true, Bool.and_eq_false_iff, Bool.or_eq_false_iff, Int.not_le, Int.not_lt, Nat.not_le, Nat.not_lt] at *); (try simp only [nc] at *))
  all_goals try simp only [Dat.ok, Dat.dec, Leaf.ok, Leaf.val, Span.eta, Set.eta, val_sl] at *
  all_goals first
    | exact finc
    | exact ⟨⟨rfl, fun i _ => Dat.hok _⟩, show _ ≤ _ by omega⟩
    | (have q : ¬ (ofV size l).2 = 0 := by assumption
       have e3 := of_err q
       simp only [e3] at *
       first
         | exact ⟨⟨rfl, fun i _ => Dat.hok _⟩, ⟨rfl, fun i (hi : i < 0) => absurd hi (Nat.not_lt_zero _)⟩, show _ ≤ _ by decide⟩
         | exact ⟨⟨rfl, fun i _ => Dat.hok _⟩, trivial, show _ ≤ _ by decide⟩
         | exact fin rfl
         | (exfalso; exact h trivial)
         | (exfalso; exact h rfl))
    | skip
  all_goals subst_vars
  · unfold InR; omega
  have hr1 : r.length ≤ 200 := by obtain ⟨o, h1, h2, h3, h4, h5⟩ := of_ok h; exact h4
  refine LoopVC.frame [2, 3, 9] (RvX r) (fun x => [(2, .i .i64 fun _ => x.k), (3, .i .i64 fun _ => (r.length : Int) - 1 - x.k)]) (fun x => [(1, vecO 37 fun _ => x.v)]) [] (fun x => r.length - x.k)
      ⟨0, r, List.Perm.refl _⟩ rfl (fun _ => rfl) ?_ ?_ fun ⟨k, v, hv⟩ => ?_
  · cbv
    repeat' first | (refine Stp.mk ?_; cbv) | (refine Gen.mk fun r hr => ?_; (try simp only [Dat.ok, Dat.dec, Leaf.ok, Leaf.val, Span.eta, Set.eta, val_sl, val_nil] at hr); cbv) | exact trivial | rfl | refine Both.mk ?_ ?_ | (refine Imp.mk fun h => ?_; (try dsimp only at h); (try simp only [nc, Int.toNat_natCast, Bool.not_eq_true', Bool.not_eq_false', decide_eq_true_eq, decide_eq_false_iff_not, beq_iff_eq, beq_eq_false_iff_ne, ba_inj, bne_iff_ne, ne_eq, Bool.and_eq_true, Bool.or_eq_true, Bool.and_eq_false_iff, Bool.or_eq_false_iff, Int.not_le, Int.not_lt, Nat.not_le, Nat.not_lt] at h); (try simp only [nc] at h)) | refine Ob.mk ?_ ?_ | refine Chk.mk (by kernel_rfl) ?_ | refine Eq'.mk ?_ | (refine AllN.mk fun i hi => ?_; cbv) | (refine AllS.mk fun r hr => ?_; (try simp only [Dat.ok, Dat.dec, Leaf.ok, Leaf.val, Span.eta, Set.eta, val_sl] at hr); cbv)
    all_goals simp
  · cbv
    repeat' first | (refine Stp.mk ?_; cbv) | (refine Gen.mk fun r hr => ?_; (try simp only [Dat.ok, Dat.dec, Leaf.ok, Leaf.val, Span.eta, Set.eta, val_sl, val_nil] at hr); cbv) | exact trivial | rfl | refine Both.mk ?_ ?_ | (refine Imp.mk fun h => ?_; (try dsimp only at h); (try simp only [nc, Int.toNat_natCast, Bool.not_eq_true', Bool.not_eq_false', decide_eq_true_eq, decide_eq_false_iff_not, beq_iff_eq, beq_eq_false_iff_ne, ba_inj, bne_iff_ne, ne_eq, Bool.and_eq_true, Bool.or_eq_true, Bool.and_eq_false_iff, Bool.or_eq_false_iff, Int.not_le, Int.not_lt, Nat.not_le, Nat.not_lt] at h); (try simp only [nc] at h)) | refine Ob.mk ?_ ?_ | refine Chk.mk (by kernel_rfl) ?_ | refine Eq'.mk ?_ | (refine AllN.mk fun i hi => ?_; cbv) | (refine AllS.mk fun r hr => ?_; (try simp only [Dat.ok, Dat.dec, Leaf.ok, Leaf.val, Span.eta, Set.eta, val_sl] at hr); cbv)
  · have hvl := hv.length_eq
    cbv
    repeat' first | (show Stp _; exfalso; first | omega | (exact h ‹_›) | (exact absurd ‹_› h) | (exact Bool.false_ne_true (h.symm.trans (show _ = true by assumption)))) | (refine Stp.mk ?_; cbv) | (refine Gen.mk fun r hr => ?_; (try simp only [Dat.ok, Dat.dec, Leaf.ok, Leaf.val, Span.eta, Set.eta, val_sl, val_nil] at hr); cbv) | exact trivial | rfl | refine Both.mk ?_ ?_ | (refine Imp.mk fun h => ?_; (try dsimp only at h); (try simp only [nc, Int.toNat_natCast, Bool.not_eq_true', Bool.not_eq_false', decide_eq_true_eq, decide_eq_false_iff_not, beq_iff_eq, beq_eq_false_iff_ne, ba_inj, bne_iff_ne, ne_eq, Bool.and_eq_true, Bool.or_eq_true, Bool.and_eq_false_iff, Bool.or_eq_false_iff, Int.not_le, Int.not_lt, Nat.not_le, Nat.not_lt] at h); (try simp only [nc] at h)) | refine Ob.mk ?_ ?_ | refine Chk.mk (by kernel_rfl) ?_ | refine Eq'.mk ?_ | (refine AllN.mk fun i hi => ?_; cbv) | (refine AllS.mk fun r hr => ?_; (try simp only [Dat.ok, Dat.dec, Leaf.ok, Leaf.val, Span.eta, Set.eta, val_sl] at hr); cbv)
    all_goals ((try dsimp only at *); (try simp only [nc, Int.toNat_natCast, Bool.not_eq_true', Bool.not_eq_false', decide_eq_true_eq, decide_eq_false_iff_not, beq_iff_eq, beq_eq_false_iff_ne, ba_inj, bne_iff_ne, ne_eq, Bool.and_eq_true, Bool.or_eq_true, Bool.and_eq_false_iff, Bool.or_eq_false_iff, Int.not_le, Int.not_lt, Nat.not_le, Nat.not_lt] at *); (try simp only [nc] at *))
    all_goals first
      | omega
      | (unfold InR; omega)
      | skip
    · have h0 : (k : Int) < (r.length : Int) - 1 - (k : Int) := h
      clear h
      have hj : ((r.length : Int) - 1 - k).toNat < v.length := by omega
      have hk : k < v.length := by omega
      refine ⟨⟨k + 1, swapL v k ((r.length : Int) - 1 - k).toNat, (swapL_perm hk hj).trans hv⟩, ?_, ?_, rfl, by (try dsimp only); omega⟩
      · cbv
        repeat' first | (refine Stp.mk ?_; cbv) | (refine Gen.mk fun r hr => ?_; (try simp only [Dat.ok, Dat.dec, Leaf.ok, Leaf.val, Span.eta, Set.eta, val_sl, val_nil] at hr); cbv) | exact trivial | rfl | refine Both.mk ?_ ?_ | (refine Imp.mk fun h => ?_; (try dsimp only at h); (try simp only [nc, Int.toNat_natCast, Bool.not_eq_true', Bool.not_eq_false', decide_eq_true_eq, decide_eq_false_iff_not, beq_iff_eq, beq_eq_false_iff_ne, ba_inj, bne_iff_ne, ne_eq, Bool.and_eq_true, Bool.or_eq_true, Bool.and_eq_false_iff, Bool.or_eq_false_iff, Int.not_le, Int.not_lt, Nat.not_le, Nat.not_lt] at h); (try simp only [nc] at h)) | refine Ob.mk ?_ ?_ | refine Chk.mk (by kernel_rfl) ?_ | refine Eq'.mk ?_ | (refine AllN.mk fun i hi => ?_; cbv) | (refine AllS.mk fun r hr => ?_; (try simp only [Dat.ok, Dat.dec, Leaf.ok, Leaf.val, Span.eta, Set.eta, val_sl] at hr); cbv)
        all_goals first
          | omega
          | (simp; omega)
          | (show (r.length : Int) - 1 - k - 1 = (r.length : Int) - 1 - ((k + 1 : Nat) : Int); omega)
      · cbv
        repeat' first | (refine Stp.mk ?_; cbv) | (refine Gen.mk fun r hr => ?_; (try simp only [Dat.ok, Dat.dec, Leaf.ok, Leaf.val, Span.eta, Set.eta, val_sl, val_nil] at hr); cbv) | exact trivial | rfl | refine Both.mk ?_ ?_ | (refine Imp.mk fun h => ?_; (try dsimp only at h); (try simp only [nc, Int.toNat_natCast, Bool.not_eq_true', Bool.not_eq_false', decide_eq_true_eq, decide_eq_false_iff_not, beq_iff_eq, beq_eq_false_iff_ne, ba_inj, bne_iff_ne, ne_eq, Bool.and_eq_true, Bool.or_eq_true, Bool.and_eq_false_iff, Bool.or_eq_false_iff, Int.not_le, Int.not_lt, Nat.not_le, Nat.not_lt] at h); (try simp only [nc] at h)) | refine Ob.mk ?_ ?_ | refine Chk.mk (by kernel_rfl) ?_ | refine Eq'.mk ?_ | (refine AllN.mk fun i hi => ?_; cbv) | (refine AllS.mk fun r hr => ?_; (try simp only [Dat.ok, Dat.dec, Leaf.ok, Leaf.val, Span.eta, Set.eta, val_sl] at hr); cbv)
        all_goals ((try dsimp only at *); (try simp only [nc, Int.toNat_natCast, Bool.not_eq_true', Bool.not_eq_false', decide_eq_true_eq, decide_eq_false_iff_not, beq_iff_eq, beq_eq_false_iff_ne, ba_inj, bne_iff_ne, ne_eq, Bool.and_eq_true, Bool.or_eq_true, Bool.and_eq_false_iff, Bool.or_eq_false_iff, Int.not_le, Int.not_lt, Nat.not_le, Nat.not_lt] at *); (try simp only [nc] at *))
        all_goals first
          | (simp [swapL_len]; done)
          | exact (bif3f _ _ _ _ _).trans (congrArg Span.frm (swap_gd hk hj i)).symm
          | exact (bif3t _ _ _ _ _).trans (congrArg Span.to (swap_gd hk hj i)).symm
          | fail
    have hin : ∀ x ∈ v, ∃ y ∈ r, x = y := fun x hx => ⟨x, hv.mem_iff.1 hx, rfl⟩
    refine LoopVC.frame [9, 10, 11, 40, 41, 59] Nat (fun x => [(40, .i .i64 fun _ => x), (9, .own 1 fun _ => r.length)]) (fun x => [(1, vecO 37 fun _ => v)]) [] (fun x => v.length - x)
        0 rfl (fun _ => rfl) ?_ ?_ fun i => ?_
    · cbv
      repeat' first | (refine Stp.mk ?_; cbv) | (refine Gen.mk fun r hr => ?_; (try simp only [Dat.ok, Dat.dec, Leaf.ok, Leaf.val, Span.eta, Set.eta, val_sl, val_nil] at hr); cbv) | exact trivial | rfl | refine Both.mk ?_ ?_ | (refine Imp.mk fun h => ?_; (try dsimp only at h); (try simp only [nc, Int.toNat_natCast, Bool.not_eq_true', Bool.not_eq_false', decide_eq_true_eq, decide_eq_false_iff_not, beq_iff_eq, beq_eq_false_iff_ne, ba_inj, bne_iff_ne, ne_eq, Bool.and_eq_true, Bool.or_eq_true, Bool.and_eq_false_iff, Bool.or_eq_false_iff, Int.not_le, Int.not_lt, Nat.not_le, Nat.not_lt] at h); (try simp only [nc] at h)) | refine Ob.mk ?_ ?_ | refine Chk.mk (by kernel_rfl) ?_ | refine Eq'.mk ?_ | (refine AllN.mk fun i hi => ?_; cbv) | (refine AllS.mk fun r hr => ?_; (try simp only [Dat.ok, Dat.dec, Leaf.ok, Leaf.val, Span.eta, Set.eta, val_sl] at hr); cbv)
    · cbv
      repeat' first | (refine Stp.mk ?_; cbv) | (refine Gen.mk fun r hr => ?_; (try simp only [Dat.ok, Dat.dec, Leaf.ok, Leaf.val, Span.eta, Set.eta, val_sl, val_nil] at hr); cbv) | exact trivial | rfl | refine Both.mk ?_ ?_ | (refine Imp.mk fun h => ?_; (try dsimp only at h); (try simp only [nc, Int.toNat_natCast, Bool.not_eq_true', Bool.not_eq_false', decide_eq_true_eq, decide_eq_false_iff_not, beq_iff_eq, beq_eq_false_iff_ne, ba_inj, bne_iff_ne, ne_eq, Bool.and_eq_true, Bool.or_eq_true, Bool.and_eq_false_iff, Bool.or_eq_false_iff, Int.not_le, Int.not_lt, Nat.not_le, Nat.not_lt] at h); (try simp only [nc] at h)) | refine Ob.mk ?_ ?_ | refine Chk.mk (by kernel_rfl) ?_ | refine Eq'.mk ?_ | (refine AllN.mk fun i hi => ?_; cbv) | (refine AllS.mk fun r hr => ?_; (try simp only [Dat.ok, Dat.dec, Leaf.ok, Leaf.val, Span.eta, Set.eta, val_sl] at hr); cbv)
    · cbv
      repeat' first | (show Stp _; exfalso; first | omega | (exact h ‹_›) | (exact absurd ‹_› h) | (exact Bool.false_ne_true (h.symm.trans (show _ = true by assumption)))) | (refine Stp.mk ?_; cbv) | (refine Gen.mk fun r hr => ?_; (try simp only [Dat.ok, Dat.dec, Leaf.ok, Leaf.val, Span.eta, Set.eta, val_sl, val_nil] at hr); cbv) | exact trivial | rfl | refine Both.mk ?_ ?_ | (refine Imp.mk fun h => ?_; (try dsimp only at h); (try simp only [nc, Int.toNat_natCast, Bool.not_eq_true', Bool.not_eq_false', decide_eq_true_eq, decide_eq_false_iff_not, beq_iff_eq, beq_eq_false_iff_ne, ba_inj, bne_iff_ne, ne_eq, Bool.and_eq_true, Bool.or_eq_true, Bool.and_eq_false_iff, Bool.or_eq_false_iff, Int.not_le, Int.not_lt, Nat.not_le, Nat.not_lt] at h); (try simp only [nc] at h)) | refine Ob.mk ?_ ?_ | refine Chk.mk (by kernel_rfl) ?_ | refine Eq'.mk ?_ | (refine AllN.mk fun i hi => ?_; cbv) | (refine AllS.mk fun r hr => ?_; (try simp only [Dat.ok, Dat.dec, Leaf.ok, Leaf.val, Span.eta, Set.eta, val_sl] at hr); cbv)
      all_goals ((try dsimp only at *); (try simp only [nc, Int.toNat_natCast, Bool.not_eq_true', Bool.not_eq_false', decide_eq_true_eq, decide_eq_false_iff_not, beq_iff_eq, beq_eq_false_iff_ne, ba_inj, bne_iff_ne, ne_eq, Bool.and_eq_true, Bool.or_eq_true, Bool.and_eq_false_iff, Bool.or_eq_false_iff, Int.not_le, Int.not_lt, Nat.not_le, Nat.not_lt] at *); (try simp only [nc] at *))
      all_goals try simp only [Dat.ok, Dat.dec, Leaf.ok, Leaf.val, Span.eta, Set.eta, val_sl] at *
      all_goals try rw [nc] at h
      all_goals have hr0 : (ofV size r).2 = 0 := by assumption
      all_goals first
        | omega
        | (unfold InR; omega)
        | (refine ⟨i + 1, ?_, ?_, rfl, by (try dsimp only); omega⟩
           · cbv
             repeat' first | (refine Stp.mk ?_; cbv) | (refine Gen.mk fun r hr => ?_; (try simp only [Dat.ok, Dat.dec, Leaf.ok, Leaf.val, Span.eta, Set.eta, val_sl, val_nil] at hr); cbv) | exact trivial | rfl | refine Both.mk ?_ ?_ | (refine Imp.mk fun h => ?_; (try dsimp only at h); (try simp only [nc, Int.toNat_natCast, Bool.not_eq_true', Bool.not_eq_false', decide_eq_true_eq, decide_eq_false_iff_not, beq_iff_eq, beq_eq_false_iff_ne, ba_inj, bne_iff_ne, ne_eq, Bool.and_eq_true, Bool.or_eq_true, Bool.and_eq_false_iff, Bool.or_eq_false_iff, Int.not_le, Int.not_lt, Nat.not_le, Nat.not_lt] at h); (try simp only [nc] at h)) | refine Ob.mk ?_ ?_ | refine Chk.mk (by kernel_rfl) ?_ | refine Eq'.mk ?_ | (refine AllN.mk fun i hi => ?_; cbv) | (refine AllS.mk fun r hr => ?_; (try simp only [Dat.ok, Dat.dec, Leaf.ok, Leaf.val, Span.eta, Set.eta, val_sl] at hr); cbv)
           · cbv
             repeat' first | (refine Stp.mk ?_; cbv) | (refine Gen.mk fun r hr => ?_; (try simp only [Dat.ok, Dat.dec, Leaf.ok, Leaf.val, Span.eta, Set.eta, val_sl, val_nil] at hr); cbv) | exact trivial | rfl | refine Both.mk ?_ ?_ | (refine Imp.mk fun h => ?_; (try dsimp only at h); (try simp only [nc, Int.toNat_natCast, Bool.not_eq_true', Bool.not_eq_false', decide_eq_true_eq, decide_eq_false_iff_not, beq_iff_eq, beq_eq_false_iff_ne, ba_inj, bne_iff_ne, ne_eq, Bool.and_eq_true, Bool.or_eq_true, Bool.and_eq_false_iff, Bool.or_eq_false_iff, Int.not_le, Int.not_lt, Nat.not_le, Nat.not_lt] at h); (try simp only [nc] at h)) | refine Ob.mk ?_ ?_ | refine Chk.mk (by kernel_rfl) ?_ | refine Eq'.mk ?_ | (refine AllN.mk fun i hi => ?_; cbv) | (refine AllS.mk fun r hr => ?_; (try simp only [Dat.ok, Dat.dec, Leaf.ok, Leaf.val, Span.eta, Set.eta, val_sl] at hr); cbv))
        | skip
      all_goals (
        have hrt := of_right hr0
        have hrl := hrt.1.len
        have vv : slV (α := Span) (.sl 2 (fun _ => r.length) fun i => Dat.enc fun _ => v.getD (i ()) Dat.d0) = v := by rw [← hvl]; exact val_sl v 2
        have oa := of_again hr0
        have op := of_perm hr0 hv
        have hc0 : checkV (ofV size r).1 = 0 := check_iff.2 hrt.1
        first
          | (have hi : i < v.length := by omega
             have l2 : v.length < 200 := by omega
             have cv := cut_val (n := r.length) (c := cutAt) hvl.symm hi
             have oc := of_cut hr0 hv l2 hi (by assumption) (by assumption)
             have cl : (cutL v i cutAt).length ≤ 200 := by unfold cutL; rw [List.length_append, List.length_set]; exact l2
             simp only [cv, oa, oc] at *
             first
               | exact ⟨⟨rfl, fun i _ => ok_cut⟩, show _ ≤ _ by omega⟩
               | exact ⟨⟨rfl, fun i _ => Dat.hok _⟩, ⟨rfl, fun i _ => Dat.hok _⟩, show _ ≤ _ by omega⟩
               | exact fin (by unfold eqSp_S; simp)
               | (exfalso
                  first
                    | exact absurd trivial (by assumption)
                    | exact absurd hc0 (by assumption)
                    | exact absurd hr0 (by assumption)
                    | (have q : eqSp_S (ofV size r).1.spans (ofV size r).1.spans = false := by assumption
                       exact absurd q (by unfold eqSp_S; simp))
                    | contradiction))
          | (try simp only [vv, oa, op] at *
             first
               | exact ⟨⟨rfl, fun i _ => Dat.hok _⟩, show _ ≤ _ by omega⟩
               | exact ⟨⟨trivial, rfl, fun i _ => Dat.hok _⟩, show _ ≤ _ by omega⟩
               | exact ⟨⟨rfl, fun i _ => Dat.hok _⟩, ⟨rfl, fun i _ => Dat.hok _⟩, show _ ≤ _ by omega⟩
               | exact fin (by unfold eqSp_S; simp)
               | (exfalso
                  first
                    | exact absurd trivial (by assumption)
                    | exact absurd hc0 (by assumption)
                    | exact absurd hr0 (by assumption)
                    | (have q : eqSp_S (ofV size r).1.spans (ofV size r).1.spans = false := by assumption
                       exact absurd q (by unfold eqSp_S; simp))
                    | contradiction))
          | fail)
section
open Go.ChangeShapes Go.WideShapes Go.ChangeAt Go.RowKit Go.Joins Go.Deep
set_option linter.unusedVariables false
theorem sof_own : ownKnob Try.prog.godebug = none := by kernel_rfl
theorem sof_laidOut : laidOutB Try.prog = true := by kernel_rfl
theorem sof_readOk {ts : Array TypeId} (h : ts.toList.all (fun t => Try.prog.readableRec t && decide (t < Try.prog.types.size)) = true) : ∀ t ∈ ts.toList, Try.prog.readableRec t = true ∧ t < Try.prog.types.size := fun t ht => by
  have := List.all_eq_true.1 h t ht
  simpa using this
mutual
theorem sof_bD {H : Type} : ∀ d : DataW H, Rows.uptoBulk d = bulkD d
  | .lit l => by cases l <;> simp [Rows.uptoBulk, bulkD]
  | .nil => by simp [Rows.uptoBulk, bulkD]
  | .ptr d => by simp [Rows.uptoBulk, bulkD, sof_bD d]
  | .slice a b => by simp [Rows.uptoBulk, bulkD, sof_bL a, sof_bL b]
  | .agg a => by simp [Rows.uptoBulk, bulkD, sof_bL a]
  | .iface _ d => by simp [Rows.uptoBulk, bulkD, sof_bD d]
  | .map e => by simp [Rows.uptoBulk, bulkD, sof_bE e]
  | .held _ => by simp [Rows.uptoBulk, bulkD]
theorem sof_bL {H : Type} : ∀ d : List (DataW H), Rows.uptoBulkAll d = bulkL d
  | [] => by simp [Rows.uptoBulkAll, bulkL]
  | d :: r => by simp [Rows.uptoBulkAll, bulkL, sof_bD d, sof_bL r]
theorem sof_bE {H : Type} : ∀ d : List (Lit × DataW H), Rows.uptoBulkEntries d = bulkE d
  | [] => by simp [Rows.uptoBulkEntries, bulkE]
  | d :: r => by simp [Rows.uptoBulkEntries, bulkE, sof_bX d, sof_bE r]
theorem sof_bX {H : Type} : ∀ d : Lit × DataW H, Rows.uptoBulkEntry d = bulkX d
  | (l, d) => by cases l <;> simp [Rows.uptoBulkEntry, bulkX, sof_bD d]
end
set_option maxRecDepth 100000 in
theorem sof_lifted (os : Os) (started : os.Started) (H : Type) (enc : TypeId × Value → H) (F : Stop.Interp) :
    ReturnsInHanded {} Try.checked os 11 .any ((Rows.OpenSpec.upto Rows.spanOfSpec).pre6 enc Try.prog Try.f11 Rows.spanOfUptoRow.domain false) (((Rows.OpenSpec.upto Rows.spanOfSpec).at F).post enc Try.prog Try.f11 false true false false) := by
  refine returnsInHanded_of_cond (C := Try.checked) (s := Rows.OpenSpec.upto Rows.spanOfSpec) (k := Rows.uptoSmall) rfl sof_own started (by kernel_rfl) Try.func11
    (OpenSpec.witness (enc := enc) (C := Try.checked) (s := Rows.OpenSpec.upto Rows.spanOfSpec) (k := Rows.uptoSmall) rfl false ⟨#[], #[.int .i64 0, .slice none 0 0, .int .i64 0], []⟩ 8 (by kernel_rfl) (by kernel_rfl) (by kernel_rfl)
      (x := ([.lit (.int .i64 0), .nil, .lit (.int .i64 0)], [], [])) (by kernel_rfl) rfl (by kernel_rfl)) ?_
  intro W base args ds gs before hval0 hW _ hk _
  show Calls Try.prog 11 args W fun e W' => ∃ v, e = .returned v ∧ Rows.spanOfSpec.post enc Try.prog Try.f11 false true false false W args v W'
  have hval : ∀ (j : Nat) t v, Try.f11.params[j]? = some t → args[j]? = some v → Value.okWide Try.prog W .any base t v := hval0
  have hW' := hW
  have hlt := hW.lt
  obtain ⟨p, q, hA0, hV, rfl, hfz, hnd⟩ := hW
  have hA : DataW.TrodAll enc Try.prog W 0 (fun _ => true) true Try.f11.params.toList args.toList ds p := hA0
  have hA1 := hA
  rw [Try.params11] at hA hval
  obtain ⟨v0, vs0, d0, ds0, p0, q0, hargs, rfl, rfl, h0, r0⟩ := trodAll_cons hA
  obtain ⟨v1, vs1, d1, ds1, p1, q1, rfl, rfl, rfl, h1, r1⟩ := trodAll_cons r0
  obtain ⟨v2, vs2, d2, ds2, p2, q2, rfl, rfl, rfl, h2, r2⟩ := trodAll_cons r1
  obtain ⟨rfl, rfl, rfl⟩ := trodAll_nil r2
  obtain rfl : args = #[v0, v1, v2] := by cases args; simp_all
  obtain ⟨rfl, rfl⟩ := trodVars_none hV
  obtain ⟨z0, rfl⟩ := okWide_int Try.underlying3 (hval 0 3 v0 rfl rfl)
  obtain ⟨y0, u0, b0, e0⟩ := arg_leaf (α := Int) (opn_int Try.underlying3) rfl h0
  obtain ⟨z1, z'1, z''1, rfl⟩ := okWide_slice Try.underlying22 (hval 1 22 v1 rfl rfl)
  obtain ⟨y1, u1, b1, e1⟩ := arg_leaf (α := (List Span)) (opn_slice Try.underlying22 (by kernel_rfl) (by decide) opn_Span) rfl h1
  obtain ⟨z2, rfl⟩ := okWide_int Try.underlying3 (hval 2 3 v2 rfl rfl)
  obtain ⟨y2, u2, b2, e2⟩ := arg_leaf (α := Int) (opn_int Try.underlying3) rfl h2
  have hB : Siz.bulk y0 + Siz.bulk y1 + Siz.bulk y2 ≤ 1048576 := by
    have h := of_decide_eq_true hk
    rw [sof_bL] at h
    simp only [List.append_nil, bulkL] at h
    omega
  have hR := repL_cons (M := fun _ => False) (β := fun _ => none) (cp := fun _ => 0) (.c e0) (repL_cons (M := fun _ => False) (β := fun _ => none) (cp := fun _ => 0) (.c e1) (repL_cons (M := fun _ => False) (β := fun _ => none) (cp := fun _ => 0) (.c e2) (repL_nil)))
  refine (law_callsA (sof_vc y0 y1 y2 u0 u1 u2 hB) hR).mono fun e W' ⟨he, bel⟩ => ?_
  subst he
  exact ⟨_, rfl, _, _, _, [], _, [], hW', trodAll_mk1 (shut_bool Try.underlying4 _), trodAll_below sof_laidOut bel (sof_readOk (by kernel_rfl)) (fun x hx => hlt x (List.mem_append_left _ hx)) hA1, rfl, bel.frame _, fun h => by cases h⟩
theorem SpanOf_proved : Rows.SpanOfUptoSaid :=
  OpenClaim.holds_of_cond 11 Try.f11 rfl rfl rfl rfl rfl rfl rfl ⟨rfl, rfl, rfl, rfl, rfl⟩ rfl rfl rfl rfl rfl (by kernel_rfl) Try.func11 (by kernel_rfl)
    (of_decide_eq_true (by kernel_rfl)) (by unfold Func.isWrapper; first | (rw [if_pos (by decide +kernel)]; kernel_rfl) | (rw [if_neg (by decide +kernel)]; exact ⟨rfl, rfl⟩))
    (fun os started H enc _ F => sof_lifted os started H enc F)
end

end Go.Proofs.Ytmicojghbhhblaa
