/- A plan that is handed in stays as it was, and what is told shares nothing with it; for all inputs. -/
import Derived.Test.YtnjngpjkhddnfaaGreatDoorConfL
import Derived.Test.YtnjngpjkhddnfaaGreatDoorDel
import Derived.Test.YtnjngpjkhddnfaaGreatDoorWantsP
import Derived.Test.YtnjngpjkhddnfaaGreatDoorCards
import Derived.Test.YtnjngpjkhddnfaaGreatDoorTie
import Derived.Deep.DeepHandedRow
import Derived.Stop.LaidErr
import Derived.Shelf.Vars
set_option linter.all false
namespace Go.Proofs.YtnjngpjkhddnfaaGreatDoor
open Go Go.Abs

attribute [local irreducible] judgeV
structure eqWant_X (l m : List Want) where
  k : Nat
  hk : k ≤ l.length
  hv : ∀ j, j < k → l.getD j Dat.d0 = m.getD j Dat.d0
def eqWant_R (r : Th (Bool)) : AV := .b fun _ => (r ())
def eqWant_S (l : (List Want)) (m : (List Want)) : Bool := decide (l = m)
def eqWant_P (l : (List Want)) (m : (List Want)) : Prop := l.length ≤ 9223372036854775807
def eqWant_D : Det := fun A => match A with
  | [l, m] => some (fun _ => Leaf.ok (List Want) l ∧ Leaf.ok (List Want) m ∧ eqWant_P (Leaf.val l) (Leaf.val m), eqWant_R fun _ => eqWant_S (Leaf.val l) (Leaf.val m))
  | _ => none
set_option maxRecDepth 100000 in
set_option maxHeartbeats 4000000 in
theorem eqWant_vc (l : (List Want)) (m : (List Want)) (hp : eqWant_P l m) : FnOk Tryz.prog 11 [Leaf.av fun _ => l, Leaf.av fun _ => m] [] (outA (eqWant_R fun _ => eqWant_S l m) []) := by
  refine fn_ok envOk zl noCon_ok (draws_ok envOk zl noDet_ok mixed) (keep := [0, 1, 4, 5, 10, 12, 13, 14, 24]) Tryz.func11 rfl ?_
  have hp' : l.length ≤ 9223372036854775807 := hp
  have fin : ∀ (b : Bool) H kl, b = decide (l = m) → outA (eqWant_R fun _ => eqWant_S l m) [] (.bc b) H kl := by
    rintro b H kl rfl
    cbv
    repeat' first | (refine Stp.mk ?_; cbv) | (refine Gen.mk fun r hr => ?_; (try simp only [Dat.ok, Dat.dec, Leaf.ok, Leaf.val, Z0, Z1, Z2, Z3, Z4, Z5, Z6, Z7, val_sl, val_nil] at hr); cbv) | exact trivial | rfl | refine Both.mk ?_ ?_ | (refine Imp.mk fun h => ?_; (try dsimp only at h); (try simp only [nc, Int.toNat_natCast, ne_eq, zz] at h); (try simp only [nc] at h)) | refine Ob.mk ?_ ?_ | refine Chk.mk (by kernel_rfl) ?_ | refine Eq'.mk ?_ | (refine AllN.mk fun i hi => ?_; cbv) | (refine AllC.mk fun c hc hcm => ?_; (try dsimp only at hc); cbv) | (refine AllS.mk fun r hr => ?_; (try simp only [Dat.ok, Dat.dec, Leaf.ok, Leaf.val, Z0, Z1, Z2, Z3, Z4, Z5, Z6, Z7, val_sl] at hr); cbv)
  generalize outA (eqWant_R fun _ => eqWant_S l m) [] = K at fin
  cbv
  refine Both.mk (Imp.mk fun h1 => ?_) (Imp.mk fun h1 => ?_)
  all_goals (refine Stp.mk ?_; cbv; (try dsimp only at h1); (try simp only [nc, Int.toNat_natCast, ne_eq, zz] at h1); (try simp only [nc] at h1))
  · refine fin _ _ _ ?_
    exact (decide_eq_false (fun h => by subst h; omega)).symm
  · have hlen : l.length = m.length := by omega
    refine LoopVC.frame [4, 5, 13, 14, 24] (eqWant_X l m) (fun x => [(13, .i .i64 fun _ => x.k)]) (fun _ => []) [] (fun x => l.length - x.k)
      ⟨0, Nat.zero_le _, fun j hj => absurd hj (Nat.not_lt_zero _)⟩ rfl (fun _ => rfl) ?_ ?_ fun ⟨k, hk, hv⟩ => ?_
    · cbv
      repeat' first | (refine Stp.mk ?_; cbv) | (refine Gen.mk fun r hr => ?_; (try simp only [Dat.ok, Dat.dec, Leaf.ok, Leaf.val, Z0, Z1, Z2, Z3, Z4, Z5, Z6, Z7, val_sl, val_nil] at hr); cbv) | exact trivial | rfl | refine Both.mk ?_ ?_ | (refine Imp.mk fun h => ?_; (try dsimp only at h); (try simp only [nc, Int.toNat_natCast, ne_eq, zz] at h); (try simp only [nc] at h)) | refine Ob.mk ?_ ?_ | refine Chk.mk (by kernel_rfl) ?_ | refine Eq'.mk ?_ | (refine AllN.mk fun i hi => ?_; cbv) | (refine AllC.mk fun c hc hcm => ?_; (try dsimp only at hc); cbv) | (refine AllS.mk fun r hr => ?_; (try simp only [Dat.ok, Dat.dec, Leaf.ok, Leaf.val, Z0, Z1, Z2, Z3, Z4, Z5, Z6, Z7, val_sl] at hr); cbv)
    · cbv
    · cbv
      repeat' first | (refine Stp.mk ?_; cbv) | (refine Gen.mk fun r hr => ?_; (try simp only [Dat.ok, Dat.dec, Leaf.ok, Leaf.val, Z0, Z1, Z2, Z3, Z4, Z5, Z6, Z7, val_sl, val_nil] at hr); cbv) | exact trivial | rfl | refine Both.mk ?_ ?_ | (refine Imp.mk fun h => ?_; (try dsimp only at h); (try simp only [nc, Int.toNat_natCast, ne_eq, zz] at h); (try simp only [nc] at h)) | refine Ob.mk ?_ ?_ | refine Chk.mk (by kernel_rfl) ?_ | refine Eq'.mk ?_ | (refine AllN.mk fun i hi => ?_; cbv) | (refine AllC.mk fun c hc hcm => ?_; (try dsimp only at hc); cbv) | (refine AllS.mk fun r hr => ?_; (try simp only [Dat.ok, Dat.dec, Leaf.ok, Leaf.val, Z0, Z1, Z2, Z3, Z4, Z5, Z6, Z7, val_sl] at hr); cbv)
      all_goals ((try dsimp only at *); (try simp only [nc, Int.toNat_natCast, ne_eq, zz] at *); (try simp only [nc] at *))
      all_goals first
        | omega
        | (unfold InR; omega)
        | (refine fin _ _ _ (decide_eq_true ?_).symm
           apply List.ext_getElem hlen
           intro i h1 h2
           have := hv i (by omega)
           simpa [h1, h2] using this)
        | (refine fin _ _ _ (decide_eq_false fun h => ?_).symm
           subst h
           simp_all; done)
        | skip
      all_goals (
        refine ⟨⟨k + 1, by omega, fun j hj => ?_⟩, ?_, trivial, rfl, by (try dsimp only); omega⟩
        · rcases Nat.lt_succ_iff_lt_or_eq.1 hj with hj | rfl
          · exact hv j hj
          · first | assumption | (generalize l.getD j Dat.d0 = a at *; generalize m.getD j Dat.d0 = b at *; cases a; cases b; simp_all; done)
        · cbv
          repeat' first | (refine Stp.mk ?_; cbv) | (refine Gen.mk fun r hr => ?_; (try simp only [Dat.ok, Dat.dec, Leaf.ok, Leaf.val, Z0, Z1, Z2, Z3, Z4, Z5, Z6, Z7, val_sl, val_nil] at hr); cbv) | exact trivial | rfl | refine Both.mk ?_ ?_ | (refine Imp.mk fun h => ?_; (try dsimp only at h); (try simp only [nc, Int.toNat_natCast, ne_eq, zz] at h); (try simp only [nc] at h)) | refine Ob.mk ?_ ?_ | refine Chk.mk (by kernel_rfl) ?_ | refine Eq'.mk ?_ | (refine AllN.mk fun i hi => ?_; cbv) | (refine AllC.mk fun c hc hcm => ?_; (try dsimp only at hc); cbv) | (refine AllS.mk fun r hr => ?_; (try simp only [Dat.ok, Dat.dec, Leaf.ok, Leaf.val, Z0, Z1, Z2, Z3, Z4, Z5, Z6, Z7, val_sl] at hr); cbv))
theorem eqWant_ok : PcOk Tryz.prog 11 (detPC eqWant_D) := det_okA fun A p r h hp0 => by
  unfold eqWant_D at h
  split at h
  · rename_i l m
    cases h
    obtain ⟨g0, g1, hp⟩ := hp0
    exact ⟨rfl, FnOk.pre (A' := [Leaf.av fun _ => (Leaf.val l : (List Want)), Leaf.av fun _ => (Leaf.val m : (List Want))]) (eqWant_vc (Leaf.val l) (Leaf.val m) hp) (.mk (Leaf.hle _ g0) (.mk (Leaf.hle _ g1) (trivial)))⟩
  · cases h
structure eqJob_X (l m : List PlanJob) where
  k : Nat
  hk : k ≤ l.length
  hv : ∀ j, j < k → l.getD j Dat.d0 = m.getD j Dat.d0
def eqJob_R (r : Th (Bool)) : AV := .b fun _ => (r ())
def eqJob_S (l : (List PlanJob)) (m : (List PlanJob)) : Bool := decide (l = m)
def eqJob_P (l : (List PlanJob)) (m : (List PlanJob)) : Prop := l.length ≤ 9223372036854775807
def eqJob_D : Det := fun A => match A with
  | [l, m] => some (fun _ => Leaf.ok (List PlanJob) l ∧ Leaf.ok (List PlanJob) m ∧ eqJob_P (Leaf.val l) (Leaf.val m), eqJob_R fun _ => eqJob_S (Leaf.val l) (Leaf.val m))
  | _ => none
set_option maxRecDepth 100000 in
set_option maxHeartbeats 4000000 in
theorem eqJob_vc (l : (List PlanJob)) (m : (List PlanJob)) (hp : eqJob_P l m) : FnOk Tryz.prog 12 [Leaf.av fun _ => l, Leaf.av fun _ => m] [] (outA (eqJob_R fun _ => eqJob_S l m) []) := by
  refine fn_ok envOk zl noCon_ok (draws_ok envOk zl noDet_ok mixed) (keep := [0, 1, 4, 5, 10, 12, 13, 14, 24]) Tryz.func12 rfl ?_
  have hp' : l.length ≤ 9223372036854775807 := hp
  have fin : ∀ (b : Bool) H kl, b = decide (l = m) → outA (eqJob_R fun _ => eqJob_S l m) [] (.bc b) H kl := by
    rintro b H kl rfl
    cbv
    repeat' first | (refine Stp.mk ?_; cbv) | (refine Gen.mk fun r hr => ?_; (try simp only [Dat.ok, Dat.dec, Leaf.ok, Leaf.val, Z0, Z1, Z2, Z3, Z4, Z5, Z6, Z7, val_sl, val_nil] at hr); cbv) | exact trivial | rfl | refine Both.mk ?_ ?_ | (refine Imp.mk fun h => ?_; (try dsimp only at h); (try simp only [nc, Int.toNat_natCast, ne_eq, zz] at h); (try simp only [nc] at h)) | refine Ob.mk ?_ ?_ | refine Chk.mk (by kernel_rfl) ?_ | refine Eq'.mk ?_ | (refine AllN.mk fun i hi => ?_; cbv) | (refine AllC.mk fun c hc hcm => ?_; (try dsimp only at hc); cbv) | (refine AllS.mk fun r hr => ?_; (try simp only [Dat.ok, Dat.dec, Leaf.ok, Leaf.val, Z0, Z1, Z2, Z3, Z4, Z5, Z6, Z7, val_sl] at hr); cbv)
  generalize outA (eqJob_R fun _ => eqJob_S l m) [] = K at fin
  cbv
  refine Both.mk (Imp.mk fun h1 => ?_) (Imp.mk fun h1 => ?_)
  all_goals (refine Stp.mk ?_; cbv; (try dsimp only at h1); (try simp only [nc, Int.toNat_natCast, ne_eq, zz] at h1); (try simp only [nc] at h1))
  · refine fin _ _ _ ?_
    exact (decide_eq_false (fun h => by subst h; omega)).symm
  · have hlen : l.length = m.length := by omega
    refine LoopVC.frame [4, 5, 13, 14, 24] (eqJob_X l m) (fun x => [(13, .i .i64 fun _ => x.k)]) (fun _ => []) [] (fun x => l.length - x.k)
      ⟨0, Nat.zero_le _, fun j hj => absurd hj (Nat.not_lt_zero _)⟩ rfl (fun _ => rfl) ?_ ?_ fun ⟨k, hk, hv⟩ => ?_
    · cbv
      repeat' first | (refine Stp.mk ?_; cbv) | (refine Gen.mk fun r hr => ?_; (try simp only [Dat.ok, Dat.dec, Leaf.ok, Leaf.val, Z0, Z1, Z2, Z3, Z4, Z5, Z6, Z7, val_sl, val_nil] at hr); cbv) | exact trivial | rfl | refine Both.mk ?_ ?_ | (refine Imp.mk fun h => ?_; (try dsimp only at h); (try simp only [nc, Int.toNat_natCast, ne_eq, zz] at h); (try simp only [nc] at h)) | refine Ob.mk ?_ ?_ | refine Chk.mk (by kernel_rfl) ?_ | refine Eq'.mk ?_ | (refine AllN.mk fun i hi => ?_; cbv) | (refine AllC.mk fun c hc hcm => ?_; (try dsimp only at hc); cbv) | (refine AllS.mk fun r hr => ?_; (try simp only [Dat.ok, Dat.dec, Leaf.ok, Leaf.val, Z0, Z1, Z2, Z3, Z4, Z5, Z6, Z7, val_sl] at hr); cbv)
    · cbv
    · cbv
      repeat' first | (refine Stp.mk ?_; cbv) | (refine Gen.mk fun r hr => ?_; (try simp only [Dat.ok, Dat.dec, Leaf.ok, Leaf.val, Z0, Z1, Z2, Z3, Z4, Z5, Z6, Z7, val_sl, val_nil] at hr); cbv) | exact trivial | rfl | refine Both.mk ?_ ?_ | (refine Imp.mk fun h => ?_; (try dsimp only at h); (try simp only [nc, Int.toNat_natCast, ne_eq, zz] at h); (try simp only [nc] at h)) | refine Ob.mk ?_ ?_ | refine Chk.mk (by kernel_rfl) ?_ | refine Eq'.mk ?_ | (refine AllN.mk fun i hi => ?_; cbv) | (refine AllC.mk fun c hc hcm => ?_; (try dsimp only at hc); cbv) | (refine AllS.mk fun r hr => ?_; (try simp only [Dat.ok, Dat.dec, Leaf.ok, Leaf.val, Z0, Z1, Z2, Z3, Z4, Z5, Z6, Z7, val_sl] at hr); cbv)
      all_goals ((try dsimp only at *); (try simp only [nc, Int.toNat_natCast, ne_eq, zz] at *); (try simp only [nc] at *))
      all_goals first
        | omega
        | (unfold InR; omega)
        | (refine fin _ _ _ (decide_eq_true ?_).symm
           apply List.ext_getElem hlen
           intro i h1 h2
           have := hv i (by omega)
           simpa [h1, h2] using this)
        | (refine fin _ _ _ (decide_eq_false fun h => ?_).symm
           subst h
           simp_all; done)
        | skip
      all_goals (
        refine ⟨⟨k + 1, by omega, fun j hj => ?_⟩, ?_, trivial, rfl, by (try dsimp only); omega⟩
        · rcases Nat.lt_succ_iff_lt_or_eq.1 hj with hj | rfl
          · exact hv j hj
          · first | assumption | (generalize l.getD j Dat.d0 = a at *; generalize m.getD j Dat.d0 = b at *; cases a; cases b; simp_all; done) | (generalize l.getD j Dat.d0 = a at *; generalize m.getD j Dat.d0 = b at *; obtain ⟨x1, ⟨x2, x3, x4⟩⟩ := a; obtain ⟨y1, ⟨y2, y3, y4⟩⟩ := b; simp_all; done)
        · cbv
          repeat' first | (refine Stp.mk ?_; cbv) | (refine Gen.mk fun r hr => ?_; (try simp only [Dat.ok, Dat.dec, Leaf.ok, Leaf.val, Z0, Z1, Z2, Z3, Z4, Z5, Z6, Z7, val_sl, val_nil] at hr); cbv) | exact trivial | rfl | refine Both.mk ?_ ?_ | (refine Imp.mk fun h => ?_; (try dsimp only at h); (try simp only [nc, Int.toNat_natCast, ne_eq, zz] at h); (try simp only [nc] at h)) | refine Ob.mk ?_ ?_ | refine Chk.mk (by kernel_rfl) ?_ | refine Eq'.mk ?_ | (refine AllN.mk fun i hi => ?_; cbv) | (refine AllC.mk fun c hc hcm => ?_; (try dsimp only at hc); cbv) | (refine AllS.mk fun r hr => ?_; (try simp only [Dat.ok, Dat.dec, Leaf.ok, Leaf.val, Z0, Z1, Z2, Z3, Z4, Z5, Z6, Z7, val_sl] at hr); cbv))
theorem eqJob_ok : PcOk Tryz.prog 12 (detPC eqJob_D) := det_okA fun A p r h hp0 => by
  unfold eqJob_D at h
  split at h
  · rename_i l m
    cases h
    obtain ⟨g0, g1, hp⟩ := hp0
    exact ⟨rfl, FnOk.pre (A' := [Leaf.av fun _ => (Leaf.val l : (List PlanJob)), Leaf.av fun _ => (Leaf.val m : (List PlanJob))]) (eqJob_vc (Leaf.val l) (Leaf.val m) hp) (.mk (Leaf.hle _ g0) (.mk (Leaf.hle _ g1) (trivial)))⟩
  · cases h
def clJob_R (r : Th ((List PlanJob))) : AV := .own 0 fun _ => (r ()).length
def clJob_H (r : Th ((List PlanJob))) : Hp := [vecO 33 fun _ => (r ())]
def clJob_P (l : (List PlanJob)) : Prop := l.length ≤ 1099511627776
def clJob_C : PC := fun A K => match A with
  | [l] => Ob (fun _ => Leaf.ok (List PlanJob) l ∧ clJob_P (Leaf.val l)) (Gen (α := (List PlanJob)) (fun _ => (Leaf.val l)) fun r => K (clJob_R fun _ => r) (clJob_H fun _ => r))
  | _ => Bad 1002
set_option maxRecDepth 100000 in
set_option maxHeartbeats 4000000 in
theorem clJob_vc (l : (List PlanJob)) (hp : clJob_P l) : FnOk Tryz.prog 8 [Leaf.av fun _ => l] [] (outA (clJob_R fun _ => l) (clJob_H fun _ => l)) := by
  refine fn_ok envOk zl noCon_ok noDraws_ok (keep := [0, 2, 4]) Tryz.func8 rfl ?_
  have hp' : l.length ≤ 1099511627776 := hp
  cbv
  repeat' first | (refine Stp.mk ?_; cbv) | (refine Gen.mk fun r hr => ?_; (try simp only [Dat.ok, Dat.dec, Leaf.ok, Leaf.val, Z0, Z1, Z2, Z3, Z4, Z5, Z6, Z7, val_sl, val_nil] at hr); cbv) | exact trivial | rfl | refine Both.mk ?_ ?_ | (refine Imp.mk fun h => ?_; (try dsimp only at h); (try simp only [nc, Int.toNat_natCast, ne_eq, zz] at h); (try simp only [nc] at h)) | refine Ob.mk ?_ ?_ | refine Chk.mk (by kernel_rfl) ?_ | refine Eq'.mk ?_ | (refine AllN.mk fun i hi => ?_; cbv) | (refine AllC.mk fun c hc hcm => ?_; (try dsimp only at hc); cbv) | (refine AllS.mk fun r hr => ?_; (try simp only [Dat.ok, Dat.dec, Leaf.ok, Leaf.val, Z0, Z1, Z2, Z3, Z4, Z5, Z6, Z7, val_sl] at hr); cbv)
  all_goals ((try dsimp only at *); (try simp only [nc, Int.toNat_natCast, ne_eq, zz] at *); (try simp only [nc] at *))
  all_goals first
    | omega
    | (exact ⟨Nat.le_refl _, trivial, by omega, by omega⟩)
    | (simp only [Nat.zero_add, Nat.sub_zero, Nat.not_lt_zero, decide_false, cond_false]; done)
    | (simp_all; done)
    | fail
theorem clJob_ok : PcOk Tryz.prog 8 (clJob_C) := fun A K h => by
  unfold clJob_C at h
  split at h
  · rename_i l
    cases h with
    | mk h1 h2 =>
      obtain ⟨g0, hp⟩ := h1
      refine FnOk.pre ?_ (A' := [Leaf.av fun _ => (Leaf.val l : (List PlanJob))]) (.mk (Leaf.hle _ g0) (trivial))
      exact FnOk.out (K := fun r H _ => K r H) (clJob_vc (Leaf.val l) hp) rfl h2.out
  · cases h
def clJobN_N : DetN := fun A => match A with
  | [l] => some (fun _ => Leaf.ok (List PlanJob) l ∧ clJob_P (Leaf.val l), clJob_R fun _ => (Leaf.val l), vecO 33 fun _ => ((Leaf.val l) : (List PlanJob)))
  | _ => none
theorem clJobN_okN : PcOk Tryz.prog 8 (detNPC clJobN_N) := det_okN fun A p r o h hp0 => by
  unfold clJobN_N at h
  split at h
  · rename_i l
    cases h
    obtain ⟨g0, hp⟩ := hp0
    exact FnOk.pre (A' := [Leaf.av fun _ => (Leaf.val l : (List PlanJob))]) (FnOk.out (clJob_vc (Leaf.val l) hp) rfl ⟨rfl, rfl⟩) (.mk (Leaf.hle _ g0) (trivial))
  · cases h
theorem judge_win (p : Plan) {i : Nat} (hi : i < (judgeV p).1.windows.length) : 0 ≤ ((judgeV p).1.windows.getD i Dat.d0).long ∧ ((judgeV p).1.windows.getD i Dat.d0).long ≤ 1000000 := by
  unfold judgeV at hi ⊢
  split at hi
  · split at hi
    · rename_i c d
      rw [if_pos c, if_pos d] at *
      have hm := make_rt d
      have e := make_go hm
      dsimp only at hi ⊢
      rw [e] at hi ⊢
      have := okW_get hm.rt hi
      have s2 := hm.rt.s2
      dsimp only at this s2 ⊢
      omega
    · cases hi
  · cases hi
structure OaX (W : List Window) where
  k : Nat
  l : List Window
  hl : l.length = W.length
  hk : k ≤ W.length
  hv : ∀ i, k ≤ i → l.getD i Dat.d0 = W.getD i Dat.d0
structure ObX (n : Nat) where
  k : Nat
  l : List Bool
  hl : l.length = n
  hk : k ≤ n
noncomputable def cOw : FuncId → Con := fun f => match f with
  | 7 => pureCon clWant_C
  | 8 => pureCon clJob_C
  | 9 => pureCon judge_C
  | 10 => pureCon (detPC clives_D)
  | 11 => pureCon (detPC eqWant_D)
  | 12 => pureCon (detPC eqJob_D)
  | _ => fun _ _ _ => Bad 1001
theorem cOw_ok : ConOk Tryz.prog cOw := fun f A H K h => by
  unfold cOw at h
  split at h
  · exact ⟨⟨Tryz.f7, Tryz.func7, by kernel_rfl, by kernel_rfl⟩, pureCon_ok clWant_ok h⟩
  · exact ⟨⟨Tryz.f8, Tryz.func8, by kernel_rfl, by kernel_rfl⟩, pureCon_ok clJob_ok h⟩
  · exact ⟨⟨Tryz.f9, Tryz.func9, by kernel_rfl, by kernel_rfl⟩, pureCon_ok judge_ok h⟩
  · exact ⟨⟨Tryz.f10, Tryz.func10, by kernel_rfl, by kernel_rfl⟩, pureCon_ok clives_ok h⟩
  · exact ⟨⟨Tryz.f11, Tryz.func11, by kernel_rfl, by kernel_rfl⟩, pureCon_ok eqWant_ok h⟩
  · exact ⟨⟨Tryz.f12, Tryz.func12, by kernel_rfl, by kernel_rfl⟩, pureCon_ok eqJob_ok h⟩
  · cases h
def dOw : FuncId → Option Dt := fun f => match f with
  | 7 => some (.n clWantN_N)
  | 8 => some (.n clJobN_N)
  | 10 => some (.c clives_D)
  | 11 => some (.c eqWant_D)
  | 12 => some (.c eqJob_D)
  | _ => none
theorem dOw_ok : DetOk Tryz.prog dOw := fun f d h => by
  unfold dOw at h
  split at h
  · cases h; exact ⟨⟨Tryz.f7, Tryz.func7, by kernel_rfl, by kernel_rfl⟩, clWantN_okN⟩
  · cases h; exact ⟨⟨Tryz.f8, Tryz.func8, by kernel_rfl, by kernel_rfl⟩, clJobN_okN⟩
  · cases h; exact ⟨⟨Tryz.f10, Tryz.func10, by kernel_rfl, by kernel_rfl⟩, clives_ok⟩
  · cases h; exact ⟨⟨Tryz.f11, Tryz.func11, by kernel_rfl, by kernel_rfl⟩, eqWant_ok⟩
  · cases h; exact ⟨⟨Tryz.f12, Tryz.func12, by kernel_rfl, by kernel_rfl⟩, eqJob_ok⟩
  · cases h
theorem plan_bulk {p : Plan} (h : Siz.bulk p ≤ 1048576) : p.wants.length ≤ 1048576 ∧ p.jobs.length ≤ 1048576 := by
  have h1 := bulk_len Want.one_le p.wants
  have h2 := bulk_len PlanJob.one_le p.jobs
  have e : Siz.bulk p = 1 + ((p.wants.map Siz.bulk).sum + 1) + ((p.jobs.map Siz.bulk).sum + 1) + 1 := rfl
  omega
theorem setW {l : List Window} {k : Nat} {v : Window} (hk : k < l.length) (i : Nat) : (l.set k v).getD i Dat.d0 = bif decide (i = k) then v else l.getD i Dat.d0 := by
  by_cases h : i = k
  · subst h; rw [decide_eq_true rfl, List.getD_eq_getElem?_getD, List.getElem?_set_self hk]; rfl
  · rw [decide_eq_false h, List.getD_eq_getElem?_getD, List.getElem?_set_ne (fun q => h q.symm), ← List.getD_eq_getElem?_getD]; rfl
theorem judge_lens (p : Plan) : (judgeV p).1.windows.length ≤ 9223372036854775800 ∧ (judgeV p).2.1.length ≤ 16 := by
  unfold judgeV
  split
  · split
    · rename_i c d
      have hm := make_rt d
      have := hm.rt.len
      refine ⟨?_, Nat.le_of_eq out_len⟩
      rw [make_go hm]
      exact Nat.le_trans this (by decide)
    · exact ⟨Nat.zero_le _, Nat.zero_le _⟩
  · exact ⟨Nat.zero_le _, Nat.zero_le _⟩
theorem setB {l : List Bool} {k : Nat} {v : Bool} (hk : k < l.length) (i : Nat) : (l.set k v).getD i Dat.d0 = bif decide (i = k) then v else l.getD i Dat.d0 := by
  by_cases h : i = k
  · subst h; rw [decide_eq_true rfl, List.getD_eq_getElem?_getD, List.getElem?_set_self hk]; rfl
  · rw [decide_eq_false h, List.getD_eq_getElem?_getD, List.getElem?_set_ne (fun q => h q.symm), ← List.getD_eq_getElem?_getD]; rfl
set_option maxRecDepth 100000 in
set_option maxHeartbeats 4000000 in
theorem cfown1_vc (p : Plan) (fit_p : Siz.fit p) (hB : Siz.bulk p ≤ 1048576) : FnOk Tryz.prog 3 [.agg (Dat.enc fun _ => p)] [] (outA (.bc true) []) := by
  refine fn_ok envOk zl cOw_ok (draws_ok envOk zl dOw_ok mixed) (keep := [0, 1, 2, 3, 4, 5, 6, 8, 9, 24, 25, 26, 39, 40, 41]) Tryz.func3 rfl ?_
  have fin := @fin_b
  have finc := @fin_t
  generalize outA (.bc true) [] = K at fin finc
  cbv
  repeat' first | (show Stp _; exfalso; first | omega | (exact h ‹_›) | (exact absurd ‹_› h) | (exact Bool.false_ne_true (h.symm.trans (show _ = true by assumption)))) | (refine Stp.mk ?_; cbv) | (refine Gen.mk fun r hr => ?_; (try simp only [Dat.ok, Dat.dec, Leaf.ok, Leaf.val, Z0, Z1, Z2, Z3, Z4, Z5, Z6, Z7, val_sl, val_nil] at hr); cbv) | exact trivial | rfl | refine Both.mk ?_ ?_ | (refine Imp.mk fun h => ?_; (try dsimp only at h); (try simp only [nc, Int.toNat_natCast, ne_eq, zz] at h); (try simp only [nc] at h)) | refine Ob.mk ?_ ?_ | refine Chk.mk (by kernel_rfl) ?_ | refine Eq'.mk ?_ | (refine AllN.mk fun i hi => ?_; cbv) | (refine AllC.mk fun c hc hcm => ?_; (try dsimp only at hc); cbv) | (refine AllS.mk fun r hr => ?_; (try simp only [Dat.ok, Dat.dec, Leaf.ok, Leaf.val, Z0, Z1, Z2, Z3, Z4, Z5, Z6, Z7, val_sl] at hr); cbv)
  all_goals ((try dsimp only at *); (try simp only [nc, Int.toNat_natCast, ne_eq, zz] at *); (try simp only [nc] at *))
  all_goals try simp only [Dat.dec, Leaf.val, Z0, Z1, Z2, Z3, Z4, Z5, Z6, Z7, val_sl] at *
  all_goals try subst_vars
  all_goals have pl := plan_bulk (p := p) hB
  all_goals try first
    | exact ⟨⟨rfl, fun i _ => Dat.hok _⟩, Nat.le_trans pl.1 (by decide)⟩
    | exact ⟨⟨rfl, fun i _ => Dat.hok _⟩, Nat.le_trans pl.2 (by decide)⟩
    | (refine ⟨⟨trivial, ⟨rfl, fun i _ => Dat.hok _⟩, rfl, fun i _ => Dat.hok _⟩, (?_ : p.wants.length ≤ 9223372036854775807 ∧ p.jobs.length ≤ 9223372036854775807)⟩
       exact ⟨by omega, by omega⟩)
  have jw : ∀ i, i < (judgeV p).1.windows.length → 0 ≤ ((judgeV p).1.windows.getD i Dat.d0).long ∧ ((judgeV p).1.windows.getD i Dat.d0).long ≤ 1000000 := fun i hi => judge_win p hi
  have ⟨wl, bl⟩ := judge_lens p
  generalize (judgeV p).1.windows = W at *
  generalize (judgeV p).2.1 = B at *
  refine LoopVC.frame [8, 25, 26] (OaX W) (fun x => [(25, .i .i64 fun _ => x.k)]) (fun x => [(3, vecO 42 fun _ => x.l)]) [] (fun x => W.length - x.k) ⟨0, W, rfl, Nat.zero_le _, fun _ _ => rfl⟩ rfl (fun _ => rfl) ?_ ?_ fun ⟨k, l, hl, hk, hv⟩ => ?_
  · cbv
    repeat' first | (refine Stp.mk ?_; cbv) | (refine Gen.mk fun r hr => ?_; (try simp only [Dat.ok, Dat.dec, Leaf.ok, Leaf.val, Z0, Z1, Z2, Z3, Z4, Z5, Z6, Z7, val_sl, val_nil] at hr); cbv) | exact trivial | rfl | refine Both.mk ?_ ?_ | (refine Imp.mk fun h => ?_; (try dsimp only at h); (try simp only [nc, Int.toNat_natCast, ne_eq, zz] at h); (try simp only [nc] at h)) | refine Ob.mk ?_ ?_ | refine Chk.mk (by kernel_rfl) ?_ | refine Eq'.mk ?_ | (refine AllN.mk fun i hi => ?_; cbv) | (refine AllC.mk fun c hc hcm => ?_; (try dsimp only at hc); cbv) | (refine AllS.mk fun r hr => ?_; (try simp only [Dat.ok, Dat.dec, Leaf.ok, Leaf.val, Z0, Z1, Z2, Z3, Z4, Z5, Z6, Z7, val_sl] at hr); cbv)
    all_goals fail
  · cbv
    repeat' first | (refine Stp.mk ?_; cbv) | (refine Gen.mk fun r hr => ?_; (try simp only [Dat.ok, Dat.dec, Leaf.ok, Leaf.val, Z0, Z1, Z2, Z3, Z4, Z5, Z6, Z7, val_sl, val_nil] at hr); cbv) | exact trivial | rfl | refine Both.mk ?_ ?_ | (refine Imp.mk fun h => ?_; (try dsimp only at h); (try simp only [nc, Int.toNat_natCast, ne_eq, zz] at h); (try simp only [nc] at h)) | refine Ob.mk ?_ ?_ | refine Chk.mk (by kernel_rfl) ?_ | refine Eq'.mk ?_ | (refine AllN.mk fun i hi => ?_; cbv) | (refine AllC.mk fun c hc hcm => ?_; (try dsimp only at hc); cbv) | (refine AllS.mk fun r hr => ?_; (try simp only [Dat.ok, Dat.dec, Leaf.ok, Leaf.val, Z0, Z1, Z2, Z3, Z4, Z5, Z6, Z7, val_sl] at hr); cbv)
    all_goals fail
  have hl9 : l.length = W.length := hl
  have hk9 : k ≤ W.length := hk
  cbv
  repeat' first | (show Stp _; exfalso; first | omega | (exact h ‹_›) | (exact absurd ‹_› h) | (exact Bool.false_ne_true (h.symm.trans (show _ = true by assumption)))) | (refine Stp.mk ?_; cbv) | (refine Gen.mk fun r hr => ?_; (try simp only [Dat.ok, Dat.dec, Leaf.ok, Leaf.val, Z0, Z1, Z2, Z3, Z4, Z5, Z6, Z7, val_sl, val_nil] at hr); cbv) | exact trivial | rfl | refine Both.mk ?_ ?_ | (refine Imp.mk fun h => ?_; (try dsimp only at h); (try simp only [nc, Int.toNat_natCast, ne_eq, zz] at h); (try simp only [nc] at h)) | refine Ob.mk ?_ ?_ | refine Chk.mk (by kernel_rfl) ?_ | refine Eq'.mk ?_ | (refine AllN.mk fun i hi => ?_; cbv) | (refine AllC.mk fun c hc hcm => ?_; (try dsimp only at hc); cbv) | (refine AllS.mk fun r hr => ?_; (try simp only [Dat.ok, Dat.dec, Leaf.ok, Leaf.val, Z0, Z1, Z2, Z3, Z4, Z5, Z6, Z7, val_sl] at hr); cbv)
  all_goals ((try dsimp only at *); (try simp only [nc, Int.toNat_natCast, ne_eq, zz] at *); (try simp only [nc] at *))
  all_goals try rw [nc] at *
  all_goals try simp only [Dat.dec, Leaf.val, Z0, Z1, Z2, Z3, Z4, Z5, Z6, Z7, val_sl] at *
  all_goals first
    | omega
    | exact ⟨by omega, by omega⟩
    | (have q := jw k (by omega); rw [hv k (Nat.le_refl _)]; unfold InR; omega)
    | (show InR ((k : Int) + 1); unfold InR; omega)
    | (have hkl : k < l.length := by omega
       refine ⟨⟨k + 1, l.set k ⟨(l.getD k Dat.d0).frm, (l.getD k Dat.d0).long + 1, (l.getD k Dat.d0).owner⟩, by rw [List.length_set]; exact hl9, by omega, fun i hi => by
         rw [List.getD_eq_getElem?_getD, List.getElem?_set_ne (by omega), ← List.getD_eq_getElem?_getD]
         exact hv i (by omega)⟩, ?_, ?_, rfl, by (try dsimp only); omega⟩
       · cbv
         repeat' first | (refine Stp.mk ?_; cbv) | (refine Gen.mk fun r hr => ?_; (try simp only [Dat.ok, Dat.dec, Leaf.ok, Leaf.val, Z0, Z1, Z2, Z3, Z4, Z5, Z6, Z7, val_sl, val_nil] at hr); cbv) | exact trivial | rfl | refine Both.mk ?_ ?_ | (refine Imp.mk fun h => ?_; (try dsimp only at h); (try simp only [nc, Int.toNat_natCast, ne_eq, zz] at h); (try simp only [nc] at h)) | refine Ob.mk ?_ ?_ | refine Chk.mk (by kernel_rfl) ?_ | refine Eq'.mk ?_ | (refine AllN.mk fun i hi => ?_; cbv) | (refine AllC.mk fun c hc hcm => ?_; (try dsimp only at hc); cbv) | (refine AllS.mk fun r hr => ?_; (try simp only [Dat.ok, Dat.dec, Leaf.ok, Leaf.val, Z0, Z1, Z2, Z3, Z4, Z5, Z6, Z7, val_sl] at hr); cbv)
         all_goals exact (List.length_set ..).symm
       · cbv
         repeat' first | (refine Stp.mk ?_; cbv) | (refine Gen.mk fun r hr => ?_; (try simp only [Dat.ok, Dat.dec, Leaf.ok, Leaf.val, Z0, Z1, Z2, Z3, Z4, Z5, Z6, Z7, val_sl, val_nil] at hr); cbv) | exact trivial | rfl | refine Both.mk ?_ ?_ | (refine Imp.mk fun h => ?_; (try dsimp only at h); (try simp only [nc, Int.toNat_natCast, ne_eq, zz] at h); (try simp only [nc] at h)) | refine Ob.mk ?_ ?_ | refine Chk.mk (by kernel_rfl) ?_ | refine Eq'.mk ?_ | (refine AllN.mk fun i hi => ?_; cbv) | (refine AllC.mk fun c hc hcm => ?_; (try dsimp only at hc); cbv) | (refine AllS.mk fun r hr => ?_; (try simp only [Dat.ok, Dat.dec, Leaf.ok, Leaf.val, Z0, Z1, Z2, Z3, Z4, Z5, Z6, Z7, val_sl] at hr); cbv)
         all_goals first
           | exact (List.length_set ..).symm
           | (dsimp only
              rw [setW hkl i]
              by_cases hik : i = k
              · subst hik; rw [decide_eq_true rfl]; rfl
              · rw [decide_eq_false hik]; rfl)
           | fail)
    | skip
  refine LoopVC.frame [9, 40, 41] (ObX B.length) (fun x => [(40, .i .i64 fun _ => x.k)]) (fun x => [(4, vecO 4 fun _ => x.l)]) [] (fun x => B.length - x.k) ⟨0, B, rfl, Nat.zero_le _⟩ rfl (fun _ => rfl) ?_ ?_ fun ⟨k2, l2, hl2, hk2⟩ => ?_
  · cbv
    repeat' first | (refine Stp.mk ?_; cbv) | (refine Gen.mk fun r hr => ?_; (try simp only [Dat.ok, Dat.dec, Leaf.ok, Leaf.val, Z0, Z1, Z2, Z3, Z4, Z5, Z6, Z7, val_sl, val_nil] at hr); cbv) | exact trivial | rfl | refine Both.mk ?_ ?_ | (refine Imp.mk fun h => ?_; (try dsimp only at h); (try simp only [nc, Int.toNat_natCast, ne_eq, zz] at h); (try simp only [nc] at h)) | refine Ob.mk ?_ ?_ | refine Chk.mk (by kernel_rfl) ?_ | refine Eq'.mk ?_ | (refine AllN.mk fun i hi => ?_; cbv) | (refine AllC.mk fun c hc hcm => ?_; (try dsimp only at hc); cbv) | (refine AllS.mk fun r hr => ?_; (try simp only [Dat.ok, Dat.dec, Leaf.ok, Leaf.val, Z0, Z1, Z2, Z3, Z4, Z5, Z6, Z7, val_sl] at hr); cbv)
    all_goals fail
  · cbv
    repeat' first | (refine Stp.mk ?_; cbv) | (refine Gen.mk fun r hr => ?_; (try simp only [Dat.ok, Dat.dec, Leaf.ok, Leaf.val, Z0, Z1, Z2, Z3, Z4, Z5, Z6, Z7, val_sl, val_nil] at hr); cbv) | exact trivial | rfl | refine Both.mk ?_ ?_ | (refine Imp.mk fun h => ?_; (try dsimp only at h); (try simp only [nc, Int.toNat_natCast, ne_eq, zz] at h); (try simp only [nc] at h)) | refine Ob.mk ?_ ?_ | refine Chk.mk (by kernel_rfl) ?_ | refine Eq'.mk ?_ | (refine AllN.mk fun i hi => ?_; cbv) | (refine AllC.mk fun c hc hcm => ?_; (try dsimp only at hc); cbv) | (refine AllS.mk fun r hr => ?_; (try simp only [Dat.ok, Dat.dec, Leaf.ok, Leaf.val, Z0, Z1, Z2, Z3, Z4, Z5, Z6, Z7, val_sl] at hr); cbv)
    all_goals fail
  have hl29 : l2.length = B.length := hl2
  have hk29 : k2 ≤ B.length := hk2
  cbv
  repeat' first | (show Stp _; exfalso; first | omega | (exact h ‹_›) | (exact absurd ‹_› h) | (exact Bool.false_ne_true (h.symm.trans (show _ = true by assumption)))) | (refine Stp.mk ?_; cbv) | (refine Gen.mk fun r hr => ?_; (try simp only [Dat.ok, Dat.dec, Leaf.ok, Leaf.val, Z0, Z1, Z2, Z3, Z4, Z5, Z6, Z7, val_sl, val_nil] at hr); cbv) | exact trivial | rfl | refine Both.mk ?_ ?_ | (refine Imp.mk fun h => ?_; (try dsimp only at h); (try simp only [nc, Int.toNat_natCast, ne_eq, zz] at h); (try simp only [nc] at h)) | refine Ob.mk ?_ ?_ | refine Chk.mk (by kernel_rfl) ?_ | refine Eq'.mk ?_ | (refine AllN.mk fun i hi => ?_; cbv) | (refine AllC.mk fun c hc hcm => ?_; (try dsimp only at hc); cbv) | (refine AllS.mk fun r hr => ?_; (try simp only [Dat.ok, Dat.dec, Leaf.ok, Leaf.val, Z0, Z1, Z2, Z3, Z4, Z5, Z6, Z7, val_sl] at hr); cbv)
  all_goals ((try dsimp only at *); (try simp only [nc, Int.toNat_natCast, ne_eq, zz] at *); (try simp only [nc] at *))
  all_goals try rw [nc] at *
  all_goals try simp only [Dat.dec, Leaf.val, Z0, Z1, Z2, Z3, Z4, Z5, Z6, Z7, val_sl] at *
  all_goals first
    | omega
    | exact ⟨by omega, by omega⟩
    | exact Nat.le_refl _
    | (show InR ((k2 : Int) + 1); unfold InR; omega)
    | (refine ⟨⟨rfl, fun i _ => Dat.hok _⟩, ⟨rfl, fun i _ => Dat.hok _⟩, (?_ : p.wants.length ≤ 9223372036854775807)⟩
       omega)
    | (refine ⟨⟨rfl, fun i _ => Dat.hok _⟩, ⟨rfl, fun i _ => Dat.hok _⟩, (?_ : p.jobs.length ≤ 9223372036854775807)⟩
       omega)
    | (refine fin ?_
       exact decide_eq_true rfl)
    | (exfalso; exact absurd ((by assumption : eqWant_S p.wants p.wants = false).symm.trans (decide_eq_true rfl)) (by decide))
    | (have hkl : k2 < l2.length := by omega
       refine ⟨⟨k2 + 1, l2.set k2 (!(l2.getD k2 Dat.d0)), by rw [List.length_set]; exact hl29, by omega⟩, ?_, ?_, rfl, by (try dsimp only); omega⟩
       · cbv
         repeat' first | (refine Stp.mk ?_; cbv) | (refine Gen.mk fun r hr => ?_; (try simp only [Dat.ok, Dat.dec, Leaf.ok, Leaf.val, Z0, Z1, Z2, Z3, Z4, Z5, Z6, Z7, val_sl, val_nil] at hr); cbv) | exact trivial | rfl | refine Both.mk ?_ ?_ | (refine Imp.mk fun h => ?_; (try dsimp only at h); (try simp only [nc, Int.toNat_natCast, ne_eq, zz] at h); (try simp only [nc] at h)) | refine Ob.mk ?_ ?_ | refine Chk.mk (by kernel_rfl) ?_ | refine Eq'.mk ?_ | (refine AllN.mk fun i hi => ?_; cbv) | (refine AllC.mk fun c hc hcm => ?_; (try dsimp only at hc); cbv) | (refine AllS.mk fun r hr => ?_; (try simp only [Dat.ok, Dat.dec, Leaf.ok, Leaf.val, Z0, Z1, Z2, Z3, Z4, Z5, Z6, Z7, val_sl] at hr); cbv)
         all_goals exact (List.length_set ..).symm
       · cbv
         repeat' first | (refine Stp.mk ?_; cbv) | (refine Gen.mk fun r hr => ?_; (try simp only [Dat.ok, Dat.dec, Leaf.ok, Leaf.val, Z0, Z1, Z2, Z3, Z4, Z5, Z6, Z7, val_sl, val_nil] at hr); cbv) | exact trivial | rfl | refine Both.mk ?_ ?_ | (refine Imp.mk fun h => ?_; (try dsimp only at h); (try simp only [nc, Int.toNat_natCast, ne_eq, zz] at h); (try simp only [nc] at h)) | refine Ob.mk ?_ ?_ | refine Chk.mk (by kernel_rfl) ?_ | refine Eq'.mk ?_ | (refine AllN.mk fun i hi => ?_; cbv) | (refine AllC.mk fun c hc hcm => ?_; (try dsimp only at hc); cbv) | (refine AllS.mk fun r hr => ?_; (try simp only [Dat.ok, Dat.dec, Leaf.ok, Leaf.val, Z0, Z1, Z2, Z3, Z4, Z5, Z6, Z7, val_sl] at hr); cbv)
         all_goals first
           | exact (List.length_set ..).symm
           | exact (setB hkl i).symm
           | fail)
    | fail
section
open Go.ChangeShapes Go.WideShapes Go.ChangeAt Go.RowKit Go.Joins Go.Deep
set_option linter.unusedVariables false
theorem cfown1_own : ownKnob Tryz.prog.godebug = none := by kernel_rfl
theorem cfown1_tab3 {W : World} (h : laidMetH Tryz.prog Rows.confOwnUptoRow.laid W) : Lib.TabIs Tryz.prog W "internal/strconv.uint64pow10" .u64 Lib.pow10Tab := by
  have h2 : laidMet Tryz.prog (Rows.confOwnUptoRow.laid.drop 2) W := laidMet.tail (laidMet.tail (h))
  have hT : (Tryz.prog.globals[3]?).map (·.type) = some 198 := by kernel_rfl
  have hz : Lib.pow10Tab = [1, 10, 100, 1000, 10000, 100000, 1000000, 10000000, 100000000, 1000000000, 10000000000, 100000000000, 1000000000000, 10000000000000, 100000000000000, 1000000000000000, 10000000000000000, 100000000000000000, 1000000000000000000, 10000000000000000000] := by decide +kernel
  rw [hz]
  exact Lib.tabIs_of_head (n := 20) (e := 128) (by kernel_rfl) hT (by kernel_rfl) (by kernel_rfl) (by kernel_rfl) (by kernel_rfl) h2
theorem cfown1_dom {W : World} (h : laidMetH Tryz.prog Rows.confOwnUptoRow.laid W) (hsh : W.ShapedOpen Tryz.prog) : Dom W fun _ => False := by
  have ht := cfown1_tab3 h
  have vlt : ∀ {n : String} {g : Nat} {cs : Array Value}, Tryz.prog.globalNamed n = some g → W.var? Tryz.prog n = some cs → g < W.heap.size := fun {n g cs} hg hv => by
    unfold World.var? at hv
    rw [hg] at hv
    rcases Nat.lt_or_ge g W.heap.size with q | q
    · exact q
    · simp [Array.getElem?_eq_none q] at hv
  have clt : ∀ {a : Addr} {v : Value}, W.cell? a = some v → a.block < W.heap.size := fun {a v} hv => by
    rcases Nat.lt_or_ge a.block W.heap.size with q | q
    · exact q
    · simp [World.cell?, Array.getElem?_eq_none q] at hv
  have h0 := cell_of_shapedOpen_int (P := Tryz.prog) (g := 0) (t := 3) (zero := #[.int .i64 0]) (k := .i64) hsh (of_decide_eq_true (by kernel_rfl)) (by kernel_rfl) rfl (by kernel_rfl) (by kernel_rfl) (by kernel_rfl)
  have g1 : laidMet Tryz.prog (Rows.confOwnUptoRow.laid.drop 5) W := laidMet.tail (laidMet.tail (laidMet.tail (laidMet.tail (laidMet.tail (h)))))
  have h1 : ∃ t p, W.var? Tryz.prog "strconv.ErrSyntax" = some #[.iface t p] := by
    have st : "*" ++ "errors.errorString" = "*errors.errorString" := by decide
    have hr : ∀ u, Tryz.prog.typeName? 3 u = some "*errors.errorString" → u = 206 := fun u hu => typeName_ptr_named (nm := "errors.errorString") (by rw [st]; kernel_rfl) (by kernel_rfl) (by decide) u (by rw [st]; exact hu)
    obtain ⟨a, _, h1, _⟩ := laid_sentinel (g := 4) (ti := 86) (tp := 206) (te := 208) (ts := 9) (ms := #[("Error", 89)]) g1 (by kernel_rfl) (by kernel_rfl) Tryz.underlying86 hr Tryz.underlying206 Tryz.underlying208 rfl rfl (by kernel_rfl) (by kernel_rfl) (by kernel_rfl)
    exact ⟨_, _, h1⟩
  have g2 : laidMet Tryz.prog (Rows.confOwnUptoRow.laid.drop 4) W := laidMet.tail (laidMet.tail (laidMet.tail (laidMet.tail (h))))
  have h2 : ∃ t p, W.var? Tryz.prog "strconv.ErrRange" = some #[.iface t p] := by
    have st : "*" ++ "errors.errorString" = "*errors.errorString" := by decide
    have hr : ∀ u, Tryz.prog.typeName? 3 u = some "*errors.errorString" → u = 206 := fun u hu => typeName_ptr_named (nm := "errors.errorString") (by rw [st]; kernel_rfl) (by kernel_rfl) (by decide) u (by rw [st]; exact hu)
    obtain ⟨a, _, h1, _⟩ := laid_sentinel (g := 5) (ti := 86) (tp := 206) (te := 208) (ts := 9) (ms := #[("Error", 89)]) g2 (by kernel_rfl) (by kernel_rfl) Tryz.underlying86 hr Tryz.underlying206 Tryz.underlying208 rfl rfl (by kernel_rfl) (by kernel_rfl) (by kernel_rfl)
    exact ⟨_, _, h1⟩
  have l3 : 3 < W.heap.size := by
    have hv := ht
    unfold Lib.TabIs World.var? at hv
    rw [show Tryz.prog.globalNamed "internal/strconv.uint64pow10" = some 3 by kernel_rfl] at hv
    rcases Nat.lt_or_ge 3 W.heap.size with q | q
    · exact q
    · simp [Array.getElem?_eq_none q] at hv
  have m0 : 0 < W.heap.size := clt h0.choose_spec
  have m1 : 4 < W.heap.size := (by obtain ⟨t, p, e⟩ := h1; exact vlt (g := 4) (by kernel_rfl) e)
  have m2 : 5 < W.heap.size := (by obtain ⟨t, p, e⟩ := h2; exact vlt (g := 5) (by kernel_rfl) e)
  refine ⟨fun _ h => h.elim, fun g hg => ⟨?_, fun h => h⟩, ht, h0, h1, h2⟩
  simp [Kd.tl, kdI] at hg
  rcases hg with rfl | rfl | rfl | rfl <;> assumption
def cfown1_setC (cs : Array Value) : Obj → Obj
  | .cells _ t frozen => .cells cs t frozen
  | o => o
noncomputable def cfown1_low : Nat := (World.holding Tryz.prog default ⟨#[], #[], []⟩).heap.size
noncomputable def cfown1_laidWorld (os : Os) : World :=
  { World.holding Tryz.prog os ⟨#[.cells #[.string ⟨#[118, 97, 108, 117, 101, 32, 111, 117, 116, 32, 111, 102, 32, 114, 97, 110, 103, 101]⟩] 208, .cells #[.string ⟨#[105, 110, 118, 97, 108, 105, 100, 32, 115, 121, 110, 116, 97, 120]⟩] 208], #[], []⟩ with heap := ((((((((World.holding Tryz.prog os ⟨#[.cells #[.string ⟨#[118, 97, 108, 117, 101, 32, 111, 117, 116, 32, 111, 102, 32, 114, 97, 110, 103, 101]⟩] 208, .cells #[.string ⟨#[105, 110, 118, 97, 108, 105, 100, 32, 115, 121, 110, 116, 97, 120]⟩] 208], #[], []⟩).heap).modify 6 (cfown1_setC #[.int .u8 0, .int .u8 1, .int .u8 28, .int .u8 2, .int .u8 29, .int .u8 14, .int .u8 24, .int .u8 3, .int .u8 30, .int .u8 22, .int .u8 20, .int .u8 15, .int .u8 25, .int .u8 17, .int .u8 4, .int .u8 8, .int .u8 31, .int .u8 27, .int .u8 13, .int .u8 23, .int .u8 21, .int .u8 19, .int .u8 16, .int .u8 7, .int .u8 26, .int .u8 12, .int .u8 18, .int .u8 6, .int .u8 11, .int .u8 5, .int .u8 10, .int .u8 9])).modify 7 (cfown1_setC #[.int .u8 0, .int .u8 1, .int .u8 56, .int .u8 2, .int .u8 57, .int .u8 49, .int .u8 28, .int .u8 3, .int .u8 61, .int .u8 58, .int .u8 42, .int .u8 50, .int .u8 38, .int .u8 29, .int .u8 17, .int .u8 4, .int .u8 62, .int .u8 47, .int .u8 59, .int .u8 36, .int .u8 45, .int .u8 43, .int .u8 51, .int .u8 22, .int .u8 53, .int .u8 39, .int .u8 33, .int .u8 30, .int .u8 24, .int .u8 18, .int .u8 12, .int .u8 5, .int .u8 63, .int .u8 55, .int .u8 48, .int .u8 27, .int .u8 60, .int .u8 41, .int .u8 37, .int .u8 16, .int .u8 46, .int .u8 35, .int .u8 44, .int .u8 21, .int .u8 52, .int .u8 32, .int .u8 23, .int .u8 11, .int .u8 54, .int .u8 26, .int .u8 40, .int .u8 15, .int .u8 34, .int .u8 20, .int .u8 31, .int .u8 10, .int .u8 25, .int .u8 14, .int .u8 19, .int .u8 9, .int .u8 13, .int .u8 8, .int .u8 7, .int .u8 6])).modify 3 (cfown1_setC #[.int .u64 1, .int .u64 10, .int .u64 100, .int .u64 1000, .int .u64 10000, .int .u64 100000, .int .u64 1000000, .int .u64 10000000, .int .u64 100000000, .int .u64 1000000000, .int .u64 10000000000, .int .u64 100000000000, .int .u64 1000000000000, .int .u64 10000000000000, .int .u64 100000000000000, .int .u64 1000000000000000, .int .u64 10000000000000000, .int .u64 100000000000000000, .int .u64 1000000000000000000, .int .u64 10000000000000000000])).modify 2 (cfown1_setC #[.int .u8 128, .int .u8 191, .int .u8 160, .int .u8 191, .int .u8 128, .int .u8 159, .int .u8 144, .int .u8 191, .int .u8 128, .int .u8 143, .int .u8 0, .int .u8 0, .int .u8 0, .int .u8 0, .int .u8 0, .int .u8 0, .int .u8 0, .int .u8 0, .int .u8 0, .int .u8 0, .int .u8 0, .int .u8 0, .int .u8 0, .int .u8 0, .int .u8 0, .int .u8 0, .int .u8 0, .int .u8 0, .int .u8 0, .int .u8 0, .int .u8 0, .int .u8 0])).modify 5 (cfown1_setC #[.iface 206 (.pointer (some ⟨cfown1_low + 0, 0, none⟩))])).modify 4 (cfown1_setC #[.iface 206 (.pointer (some ⟨cfown1_low + 1, 0, none⟩))])).modify 1 (cfown1_setC ((Go.Pinned.utf8FirstZ.map fun n : Nat => Value.int .u8 (n : Int)).toArray)) }
theorem cfown1_laid_met (os : Os) : laidMet Tryz.prog Rows.confOwnUptoRow.laid ((cfown1_laidWorld os).forCall (fun _ _ => 0) ⟨#[], #[.agg #[.int .i64 0, .slice none 0 0, .slice none 0 0]], []⟩).memory :=
  laidMet_of_run' 8 (by kernel_rfl) (by kernel_rfl)
theorem cfown1_reads (os : Os) {H : Type} (enc : TypeId × Value → H) : ∃ places, DataW.whole enc Tryz.prog ((cfown1_laidWorld os).forCall (fun _ _ => 0) ⟨#[], #[.agg #[.int .i64 0, .slice none 0 0, .slice none 0 0]], []⟩).memory Tryz.f3.params.toList Rows.confOwnSpec.vars false (#[.agg #[.int .i64 0, .slice none 0 0, .slice none 0 0]] : Array Value).toList 8 = some ([.agg [.lit (.int .i64 0), .nil, .nil]], [], places) :=
  ⟨[], by kernel_rfl⟩
theorem cfown1_laidOut : laidOutB Tryz.prog = true := by kernel_rfl
theorem cfown1_readOk {ts : Array TypeId} (h : ts.toList.all (fun t => Tryz.prog.readableRec t && decide (t < Tryz.prog.types.size)) = true) : ∀ t ∈ ts.toList, Tryz.prog.readableRec t = true ∧ t < Tryz.prog.types.size := fun t ht => by
  have := List.all_eq_true.1 h t ht
  simpa using this
mutual
theorem cfown1_bD {H : Type} : ∀ d : DataW H, Rows.uptoBulk d = bulkD d
  | .lit l => by cases l <;> simp [Rows.uptoBulk, bulkD]
  | .nil => by simp [Rows.uptoBulk, bulkD]
  | .ptr d => by simp [Rows.uptoBulk, bulkD, cfown1_bD d]
  | .slice a b => by simp [Rows.uptoBulk, bulkD, cfown1_bL a, cfown1_bL b]
  | .agg a => by simp [Rows.uptoBulk, bulkD, cfown1_bL a]
  | .iface _ d => by simp [Rows.uptoBulk, bulkD, cfown1_bD d]
  | .map e => by simp [Rows.uptoBulk, bulkD, cfown1_bE e]
  | .held _ => by simp [Rows.uptoBulk, bulkD]
theorem cfown1_bL {H : Type} : ∀ d : List (DataW H), Rows.uptoBulkAll d = bulkL d
  | [] => by simp [Rows.uptoBulkAll, bulkL]
  | d :: r => by simp [Rows.uptoBulkAll, bulkL, cfown1_bD d, cfown1_bL r]
theorem cfown1_bE {H : Type} : ∀ d : List (Lit × DataW H), Rows.uptoBulkEntries d = bulkE d
  | [] => by simp [Rows.uptoBulkEntries, bulkE]
  | d :: r => by simp [Rows.uptoBulkEntries, bulkE, cfown1_bX d, cfown1_bE r]
theorem cfown1_bX {H : Type} : ∀ d : Lit × DataW H, Rows.uptoBulkEntry d = bulkX d
  | (l, d) => by cases l <;> simp [Rows.uptoBulkEntry, bulkX, cfown1_bD d]
end
set_option maxRecDepth 100000 in
theorem cfown1_lifted (os : Os) (started : os.Started) (H : Type) (enc : TypeId × Value → H) (F : Stop.Interp) :
    ReturnsInHanded {} Tryz.checked os 3 .any ((Rows.OpenSpec.upto Rows.confOwnSpec).preRow enc Tryz.prog Tryz.f3 Rows.confOwnUptoRow.domain false Rows.confOwnUptoRow.laid) (((Rows.OpenSpec.upto Rows.confOwnSpec).at F).post enc Tryz.prog Tryz.f3 false true false false) := by
  obtain ⟨places, hx⟩ := cfown1_reads os enc
  refine returnsInHanded_of_row (C := Tryz.checked) (s := Rows.OpenSpec.upto Rows.confOwnSpec) cfown1_own started (by kernel_rfl) Tryz.func3
    (witness_row_at (enc := enc) (C := Tryz.checked) false (cfown1_laidWorld os) #[.agg #[.int .i64 0, .slice none 0 0, .slice none 0 0]] rfl (by kernel_rfl) (by kernel_rfl) (by kernel_rfl)
      (OpenSpec.preRow_of_cond 8 hx (by kernel_rfl) (fun k hk => by cases hk; kernel_rfl) (by kernel_rfl) (cfown1_laid_met os))) ?_
  intro W base args ds gs before hval0 hW _ hk0 _ hL hsh9 _
  have hk := hk0 _ rfl
  show Calls Tryz.prog 3 args W fun e W' => ∃ v, e = .returned v ∧ Rows.confOwnSpec.post enc Tryz.prog Tryz.f3 false true false false W args v W'
  have hval : ∀ (j : Nat) t v, Tryz.f3.params[j]? = some t → args[j]? = some v → Value.okWide Tryz.prog W .any base t v := hval0
  have hW' := hW
  have hlt := hW.lt
  obtain ⟨p, q, hA0, hV, rfl, hfz, hnd⟩ := hW
  have hA : DataW.TrodAll enc Tryz.prog W 0 (fun _ => true) true Tryz.f3.params.toList args.toList ds p := hA0
  have hA1 := hA
  rw [Tryz.params3] at hA hval
  obtain ⟨v0, vs0, d0, ds0, p0, q0, hargs, rfl, rfl, h0, r0⟩ := trodAll_cons hA
  obtain ⟨rfl, rfl, rfl⟩ := trodAll_nil r0
  obtain rfl : args = #[v0] := by cases args; simp_all
  obtain ⟨rfl, rfl⟩ := trodVars_none hV
  obtain ⟨cs0, rfl, _⟩ := okWide_struct Tryz.underlying25 (hval 0 25 v0 rfl rfl)
  obtain ⟨y0, u0, b0, e0⟩ := arg_agg (α := Plan) opn_Plan h0
  have hB : Siz.bulk y0 ≤ 1048576 := by
    have h := of_decide_eq_true hk
    rw [cfown1_bL] at h
    simp only [List.append_nil, bulkL] at h
    omega
  have hR := repL_cons (M := fun _ => False) (β := fun _ => none) (cp := fun _ => 0) (.c e0) (repL_nil)
  refine (law_callsA (cfown1_vc y0 u0 hB) hR (cfown1_dom hL hsh9)).mono fun e W' ⟨he, bel⟩ => ?_
  subst he
  exact ⟨_, rfl, _, _, _, [], _, [], hW', trodAll_mk1 (shut_bool Tryz.underlying4 _), trodAll_below cfown1_laidOut bel (cfown1_readOk (by kernel_rfl)) (fun x hx => hlt x (List.mem_append_left _ hx)) hA1, rfl, bel.frame _, fun h => by cases h⟩
theorem cfown1_bare : Rows.ConfOwnUptoSaid :=
  OpenClaim.holds_of_cond 3 Tryz.f3 rfl rfl rfl rfl rfl rfl rfl ⟨rfl, rfl, rfl, rfl, rfl⟩ rfl rfl rfl rfl rfl (by kernel_rfl) Tryz.func3 (by kernel_rfl)
    (of_decide_eq_true (by kernel_rfl)) (by unfold Func.isWrapper; first | (rw [if_pos (by decide +kernel)]; kernel_rfl) | (rw [if_neg (by decide +kernel)]; exact ⟨rfl, rfl⟩))
    (fun os started H enc _ F => by rw [OpenClaim.pre_eq_preRow]; exact cfown1_lifted os started H enc F)
theorem cfown1_plain (f : FuncId) (fn : Func) (hf : Tryz.pinned.checked.prog.funcNamed "dutyroster/dutykeep.ConfOwn" = some f) (hfn : Tryz.pinned.checked.prog.funcs[f]? = some fn) :
    true = Tryz.pinned.checked.prog.looks [] ∧ ∀ (j : Nat) t, fn.params[j]? = some t → Tryz.pinned.checked.prog.wantsStandIn t = false := by
  obtain rfl : f = 3 := Option.some.inj ((show Tryz.prog.funcNamed "dutyroster/dutykeep.ConfOwn" = some 3 by kernel_rfl).symm.trans hf) |>.symm
  obtain rfl : fn = Tryz.f3 := (Option.some.inj (Tryz.func3.symm.trans hfn)).symm
  refine ⟨by kernel_rfl, fun j t ht => ?_⟩
  rw [Tryz.params3] at ht
  have hm := Array.mem_of_getElem? ht
  simp at hm
  subst hm
  all_goals (show Tryz.prog.wantsStandIn _ = false; kernel_rfl)
set_option maxRecDepth 100000 in
theorem ConfOwn_proved : Rows.ConfOwnUptoCardSaid :=
  Claim7.holds_tied_plain_at .later [] _ _ _ _ cfown1_bare (fun _ h => by cases h) (by kernel_rfl) (fun _ h => by cases h) confOwnUpto_row_tie rfl ⟨rfl, rfl⟩ (by kernel_rfl) rfl cfown1_plain (by kernel_rfl)
end

end Go.Proofs.YtnjngpjkhddnfaaGreatDoor
