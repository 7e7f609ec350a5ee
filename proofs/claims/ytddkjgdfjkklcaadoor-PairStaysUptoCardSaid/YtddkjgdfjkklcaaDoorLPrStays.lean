/- What came into a pair, and what is out, stays; for all inputs. -/
import Derived.Test.YtddkjgdfjkklcaaDoorPairN
import Derived.Test.YtddkjgdfjkklcaaDoorCards
import Derived.Test.YtddkjgdfjkklcaaDoorTie
import Derived.Deep.DeepHandedRow
import Derived.Stop.LaidErr
set_option linter.all false
namespace Go.Proofs.YtddkjgdfjkklcaaDoor
open Go Go.Abs

def clAct_R (r : Th ((List PairAct))) : AV := .own 0 fun _ => (r ()).length
def clAct_H (r : Th ((List PairAct))) : Hp := [vecO 41 fun _ => (r ())]
def clAct_P (l : (List PairAct)) : Prop := l.length ≤ 1099511627776
def clAct_C : PC := fun A K => match A with
  | [l] => Ob (fun _ => Leaf.ok (List PairAct) l ∧ clAct_P (Leaf.val l)) (Gen (α := (List PairAct)) (fun _ => (Leaf.val l)) fun r => K (clAct_R fun _ => r) (clAct_H fun _ => r))
  | _ => Bad 1002
set_option maxRecDepth 100000 in
set_option maxHeartbeats 4000000 in
theorem clAct_vc (l : (List PairAct)) (hp : clAct_P l) : FnOk Tryd.prog 14 [Leaf.av fun _ => l] [] (outA (clAct_R fun _ => l) (clAct_H fun _ => l)) := by
  refine fn_ok envOk zl noCon_ok noDraws_ok (keep := [0, 2, 4]) Tryd.func14 rfl ?_
  have hp' : l.length ≤ 1099511627776 := hp
  cbv
  repeat' first | (refine Stp.mk ?_; cbv) | (refine Gen.mk fun r hr => ?_; (try simp only [Dat.ok, Dat.dec, Leaf.ok, Leaf.val, Ins.eta, Vm.eta, Emit.eta, Fence.eta, Gate.eta, Give.eta, PairAct.eta, Node.eta, Pair.eta, val_sl, val_nil] at hr); cbv) | exact trivial | rfl | refine Both.mk ?_ ?_ | (refine Imp.mk fun h => ?_; (try dsimp only at h); (try simp only [nc, Int.toNat_natCast, ne_eq, zz] at h); (try simp only [nc] at h)) | refine Ob.mk ?_ ?_ | refine Chk.mk (by kernel_rfl) ?_ | refine Eq'.mk ?_ | (refine AllN.mk fun i hi => ?_; cbv) | (refine AllC.mk fun c hc hcm => ?_; (try dsimp only at hc); cbv) | (refine AllS.mk fun r hr => ?_; (try simp only [Dat.ok, Dat.dec, Leaf.ok, Leaf.val, Ins.eta, Vm.eta, Emit.eta, Fence.eta, Gate.eta, Give.eta, PairAct.eta, Node.eta, Pair.eta, val_sl] at hr); cbv)
  all_goals ((try dsimp only at *); (try simp only [nc, Int.toNat_natCast, ne_eq, zz] at *); (try simp only [nc] at *))
  all_goals first
    | omega
    | (exact ⟨Nat.le_refl _, trivial, by omega, by omega⟩)
    | (simp only [Nat.zero_add, Nat.sub_zero, Nat.not_lt_zero, decide_false, cond_false]; done)
    | (simp_all; done)
    | fail
theorem clAct_ok : PcOk Tryd.prog 14 (clAct_C) := fun A K h => by
  unfold clAct_C at h
  split at h
  · rename_i l
    cases h with
    | mk h1 h2 =>
      obtain ⟨g0, hp⟩ := h1
      refine FnOk.pre ?_ (A' := [Leaf.av fun _ => (Leaf.val l : (List PairAct))]) (.mk (Leaf.hle _ g0) (trivial))
      exact FnOk.out (K := fun r H _ => K r H) (clAct_vc (Leaf.val l) hp) rfl h2.out
  · cases h
structure eqI_X (l m : List Int) where
  k : Nat
  hk : k ≤ l.length
  hv : ∀ j, j < k → l.getD j Dat.d0 = m.getD j Dat.d0
def eqI_R (r : Th (Bool)) : AV := .b fun _ => (r ())
def eqI_S (l : (List Int)) (m : (List Int)) : Bool := decide (l = m)
def eqI_P (l : (List Int)) (m : (List Int)) : Prop := l.length ≤ 9223372036854775807
def eqI_D : Det := fun A => match A with
  | [l, m] => some (fun _ => Leaf.ok (List Int) l ∧ Leaf.ok (List Int) m ∧ eqI_P (Leaf.val l) (Leaf.val m), eqI_R fun _ => eqI_S (Leaf.val l) (Leaf.val m))
  | _ => none
set_option maxRecDepth 100000 in
set_option maxHeartbeats 4000000 in
theorem eqI_vc (l : (List Int)) (m : (List Int)) (hp : eqI_P l m) : FnOk Tryd.prog 15 [Leaf.av fun _ => l, Leaf.av fun _ => m] [] (outA (eqI_R fun _ => eqI_S l m) []) := by
  refine fn_ok envOk zl noCon_ok (draws_ok envOk zl noDet_ok mixed) (keep := [0, 1, 4, 5, 10, 12, 13, 14, 24]) Tryd.func15 rfl ?_
  have hp' : l.length ≤ 9223372036854775807 := hp
  have fin : ∀ (b : Bool) H kl, b = decide (l = m) → outA (eqI_R fun _ => eqI_S l m) [] (.bc b) H kl := by
    rintro b H kl rfl
    cbv
    repeat' first | (refine Stp.mk ?_; cbv) | (refine Gen.mk fun r hr => ?_; (try simp only [Dat.ok, Dat.dec, Leaf.ok, Leaf.val, Ins.eta, Vm.eta, Emit.eta, Fence.eta, Gate.eta, Give.eta, PairAct.eta, Node.eta, Pair.eta, val_sl, val_nil] at hr); cbv) | exact trivial | rfl | refine Both.mk ?_ ?_ | (refine Imp.mk fun h => ?_; (try dsimp only at h); (try simp only [nc, Int.toNat_natCast, ne_eq, zz] at h); (try simp only [nc] at h)) | refine Ob.mk ?_ ?_ | refine Chk.mk (by kernel_rfl) ?_ | refine Eq'.mk ?_ | (refine AllN.mk fun i hi => ?_; cbv) | (refine AllC.mk fun c hc hcm => ?_; (try dsimp only at hc); cbv) | (refine AllS.mk fun r hr => ?_; (try simp only [Dat.ok, Dat.dec, Leaf.ok, Leaf.val, Ins.eta, Vm.eta, Emit.eta, Fence.eta, Gate.eta, Give.eta, PairAct.eta, Node.eta, Pair.eta, val_sl] at hr); cbv)
  generalize outA (eqI_R fun _ => eqI_S l m) [] = K at fin
  cbv
  refine Both.mk (Imp.mk fun h1 => ?_) (Imp.mk fun h1 => ?_)
  all_goals (refine Stp.mk ?_; cbv; (try dsimp only at h1); (try simp only [nc, Int.toNat_natCast, ne_eq, zz] at h1); (try simp only [nc] at h1))
  · refine fin _ _ _ ?_
    exact (decide_eq_false (fun h => by subst h; omega)).symm
  · have hlen : l.length = m.length := by omega
    refine LoopVC.frame [4, 5, 13, 14, 24] (eqI_X l m) (fun x => [(13, .i .i64 fun _ => x.k)]) (fun _ => []) [] (fun x => l.length - x.k)
      ⟨0, Nat.zero_le _, fun j hj => absurd hj (Nat.not_lt_zero _)⟩ rfl (fun _ => rfl) ?_ ?_ fun ⟨k, hk, hv⟩ => ?_
    · cbv
      repeat' first | (refine Stp.mk ?_; cbv) | (refine Gen.mk fun r hr => ?_; (try simp only [Dat.ok, Dat.dec, Leaf.ok, Leaf.val, Ins.eta, Vm.eta, Emit.eta, Fence.eta, Gate.eta, Give.eta, PairAct.eta, Node.eta, Pair.eta, val_sl, val_nil] at hr); cbv) | exact trivial | rfl | refine Both.mk ?_ ?_ | (refine Imp.mk fun h => ?_; (try dsimp only at h); (try simp only [nc, Int.toNat_natCast, ne_eq, zz] at h); (try simp only [nc] at h)) | refine Ob.mk ?_ ?_ | refine Chk.mk (by kernel_rfl) ?_ | refine Eq'.mk ?_ | (refine AllN.mk fun i hi => ?_; cbv) | (refine AllC.mk fun c hc hcm => ?_; (try dsimp only at hc); cbv) | (refine AllS.mk fun r hr => ?_; (try simp only [Dat.ok, Dat.dec, Leaf.ok, Leaf.val, Ins.eta, Vm.eta, Emit.eta, Fence.eta, Gate.eta, Give.eta, PairAct.eta, Node.eta, Pair.eta, val_sl] at hr); cbv)
    · cbv
    · cbv
      repeat' first | (refine Stp.mk ?_; cbv) | (refine Gen.mk fun r hr => ?_; (try simp only [Dat.ok, Dat.dec, Leaf.ok, Leaf.val, Ins.eta, Vm.eta, Emit.eta, Fence.eta, Gate.eta, Give.eta, PairAct.eta, Node.eta, Pair.eta, val_sl, val_nil] at hr); cbv) | exact trivial | rfl | refine Both.mk ?_ ?_ | (refine Imp.mk fun h => ?_; (try dsimp only at h); (try simp only [nc, Int.toNat_natCast, ne_eq, zz] at h); (try simp only [nc] at h)) | refine Ob.mk ?_ ?_ | refine Chk.mk (by kernel_rfl) ?_ | refine Eq'.mk ?_ | (refine AllN.mk fun i hi => ?_; cbv) | (refine AllC.mk fun c hc hcm => ?_; (try dsimp only at hc); cbv) | (refine AllS.mk fun r hr => ?_; (try simp only [Dat.ok, Dat.dec, Leaf.ok, Leaf.val, Ins.eta, Vm.eta, Emit.eta, Fence.eta, Gate.eta, Give.eta, PairAct.eta, Node.eta, Pair.eta, val_sl] at hr); cbv)
      all_goals ((try dsimp only at *); (try simp only [nc, Int.toNat_natCast, ne_eq, zz] at *); (try simp only [nc] at *))
      all_goals first
        | omega
        | (unfold InR; omega)
        | (refine fin _ _ _ (decide_eq_true ?_).symm
           apply List.ext_getElem hlen
           intro i h1 h2
           have := hv i (by omega)
           simpa [h1, h2] using this)
        | (refine fin _ _ _ (decide_eq_false fun h => ?_).symm
           subst h
           simp_all; done)
        | skip
      all_goals (
        refine ⟨⟨k + 1, by omega, fun j hj => ?_⟩, ?_, trivial, rfl, by (try dsimp only); omega⟩
        · rcases Nat.lt_succ_iff_lt_or_eq.1 hj with hj | rfl
          · exact hv j hj
          · first | assumption | (generalize l.getD j Dat.d0 = a at *; generalize m.getD j Dat.d0 = b at *; cases a; cases b; simp_all; done)
        · cbv
          repeat' first | (refine Stp.mk ?_; cbv) | (refine Gen.mk fun r hr => ?_; (try simp only [Dat.ok, Dat.dec, Leaf.ok, Leaf.val, Ins.eta, Vm.eta, Emit.eta, Fence.eta, Gate.eta, Give.eta, PairAct.eta, Node.eta, Pair.eta, val_sl, val_nil] at hr); cbv) | exact trivial | rfl | refine Both.mk ?_ ?_ | (refine Imp.mk fun h => ?_; (try dsimp only at h); (try simp only [nc, Int.toNat_natCast, ne_eq, zz] at h); (try simp only [nc] at h)) | refine Ob.mk ?_ ?_ | refine Chk.mk (by kernel_rfl) ?_ | refine Eq'.mk ?_ | (refine AllN.mk fun i hi => ?_; cbv) | (refine AllC.mk fun c hc hcm => ?_; (try dsimp only at hc); cbv) | (refine AllS.mk fun r hr => ?_; (try simp only [Dat.ok, Dat.dec, Leaf.ok, Leaf.val, Ins.eta, Vm.eta, Emit.eta, Fence.eta, Gate.eta, Give.eta, PairAct.eta, Node.eta, Pair.eta, val_sl] at hr); cbv))
theorem eqI_ok : PcOk Tryd.prog 15 (detPC eqI_D) := det_okA fun A p r h hp0 => by
  unfold eqI_D at h
  split at h
  · rename_i l m
    cases h
    obtain ⟨g0, g1, hp⟩ := hp0
    exact ⟨rfl, FnOk.pre (A' := [Leaf.av fun _ => (Leaf.val l : (List Int)), Leaf.av fun _ => (Leaf.val m : (List Int))]) (eqI_vc (Leaf.val l) (Leaf.val m) hp) (.mk (Leaf.hle _ g0) (.mk (Leaf.hle _ g1) (trivial)))⟩
  · cases h
attribute [local irreducible] playA
noncomputable def cPS : FuncId → Con := fun f => match f with
  | 8 => frzCon (detPC playC_D)
  | 9 => pureCon (detPC plives_D)
  | 14 => pureCon clAct_C
  | _ => fun _ _ _ => Bad 1001
theorem cPS_ok : ConOk Tryd.prog cPS := fun f A H K h => by
  unfold cPS at h
  split at h
  · exact ⟨⟨Tryd.f8, Tryd.func8, by kernel_rfl, by kernel_rfl⟩, frzCon_ok playC_ok h⟩
  · exact ⟨⟨Tryd.f9, Tryd.func9, by kernel_rfl, by kernel_rfl⟩, pureCon_ok plives_ok h⟩
  · exact ⟨⟨Tryd.f14, Tryd.func14, by kernel_rfl, by kernel_rfl⟩, pureCon_ok clAct_ok h⟩
  · cases h
def dPS : FuncId → Option Dt := fun f => match f with
  | 11 => some (.c frontC_D)
  | 15 => some (.c eqI_D)
  | _ => none
theorem dPS_ok : DetOk Tryd.prog dPS := fun f d h => by
  unfold dPS at h
  split at h
  · cases h; exact ⟨⟨Tryd.f11, Tryd.func11, by kernel_rfl, by kernel_rfl⟩, frontC_ok⟩
  · cases h; exact ⟨⟨Tryd.f15, Tryd.func15, by kernel_rfl, by kernel_rfl⟩, eqI_ok⟩
  · cases h
set_option maxRecDepth 100000 in
set_option maxHeartbeats 4000000 in
theorem prstays_vc (code : (List Ins)) (n : Int) (l : (List PairAct)) (more : (List PairAct)) (fit_code : Siz.fit code) (fit_n : Siz.fit n) (fit_l : Siz.fit l) (fit_more : Siz.fit more) (hB : Siz.bulk code + Siz.bulk n + Siz.bulk l + Siz.bulk more ≤ 1048576) : FnOk Tryd.prog 6 [Leaf.av fun _ => code, .i .i64 fun _ => n, Leaf.av fun _ => l, Leaf.av fun _ => more] [] (outA (.bc true) []) := by
  refine fn_ok envOk zl cPS_ok (draws_ok envOk zl dPS_ok mixed) (keep := [0, 1, 2, 3, 8, 9, 11, 12, 14, 43]) Tryd.func6 rfl ?_
  have fin := @fin_b
  have finc := @fin_t
  have e40 : maxLen ≤ 9223372036854775807 := by unfold maxLen; decide
  have lc : code.length ≤ 9223372036854775807 := Nat.le_trans fit_code.1 e40
  have hlb : l.length ≤ 1048576 ∧ more.length ≤ 1048576 := by
    have h1 := bulk_len PairAct.one_le l
    have h2 := bulk_len PairAct.one_le more
    simp only [Siz.bulk] at hB h1 h2
    omega
  clear hB
  generalize outA (.bc true) [] = K at fin finc
  cbv
  repeat' first | (show Stp _; exfalso; first | omega | (exact h ‹_›) | (exact absurd ‹_› h) | (exact Bool.false_ne_true (h.symm.trans (show _ = true by assumption)))) | (refine Stp.mk ?_; cbv) | (refine Gen.mk fun r hr => ?_; (try simp only [Dat.ok, Dat.dec, Leaf.ok, Leaf.val, Ins.eta, Vm.eta, Emit.eta, Fence.eta, Gate.eta, Give.eta, PairAct.eta, Node.eta, Pair.eta, val_sl, val_nil] at hr); cbv) | exact trivial | rfl | refine Both.mk ?_ ?_ | (refine Imp.mk fun h => ?_; (try dsimp only at h); (try simp only [nc, Int.toNat_natCast, ne_eq, zz] at h); (try simp only [nc] at h)) | refine Ob.mk ?_ ?_ | refine Chk.mk (by kernel_rfl) ?_ | refine Eq'.mk ?_ | (refine AllN.mk fun i hi => ?_; cbv) | (refine AllC.mk fun c hc hcm => ?_; (try dsimp only at hc); cbv) | (refine AllS.mk fun r hr => ?_; (try simp only [Dat.ok, Dat.dec, Leaf.ok, Leaf.val, Ins.eta, Vm.eta, Emit.eta, Fence.eta, Gate.eta, Give.eta, PairAct.eta, Node.eta, Pair.eta, val_sl] at hr); cbv)
  all_goals ((try dsimp only at *); (try simp only [nc, Int.toNat_natCast, ne_eq, zz] at *); (try simp only [nc] at *))
  all_goals try simp only [Dat.dec, Leaf.val, Ins.eta, Vm.eta, Emit.eta, Fence.eta, Gate.eta, Give.eta, PairAct.eta, Node.eta, Pair.eta, val_sl, val_app (α := PairAct) _ _ 3 _ _ rfl rfl rfl] at *
  all_goals try (have hr9 := hr.symm; clear hr; subst hr9)
  all_goals first
    | exact ⟨⟨rfl, fun i _ => Dat.hok _⟩, ⟨rfl, fun i _ => Dat.hok _⟩, lc, by omega⟩
    | exact ⟨⟨rfl, fun i _ => Dat.hok _⟩, show _ ≤ _ by omega⟩
    | exact ⟨Nat.le_refl _, trivial, by omega, by omega, Nat.le_refl _⟩
    | exact Nat.le_refl _
    | exact ⟨⟨rfl, fun i _ => Dat.hok _⟩, ⟨rfl, fun i _ => ok_row rfl (Dat.hok _) (Dat.hok _)⟩, lc, by rw [List.length_append]; omega⟩
    | exact finc
    | skip
  all_goals have H0 : (playA code n l).2.2 = 0 := by assumption
  all_goals have H1 : (playA code n (l ++ more)).2.2 = 0 := by assumption
  all_goals obtain ⟨c1, c2, c3, c4⟩ := stays_law H0 H1
  all_goals have hpl := (play_ok H0).2.2.2.1
  all_goals have hql := (play_ok H1).2.2.2.1
  all_goals have g1 := (play_st H0).gl
  all_goals have g2 := (play_st H1).gl
  all_goals have g3 := (play_st H0).ll
  all_goals have g4 := (play_st H1).ll
  all_goals have vt := val_takeI (α := Int) (playA code n (l ++ more)).1.log 1 ((playA code n l).1.log.length : Int) (by omega) (by have := c2.length_le; omega)
  all_goals have ct := List.prefix_iff_eq_take.1 c2
  all_goals have cl := c2.length_le
  all_goals first
    | exact ⟨⟨rfl, fun i _ => Dat.hok _⟩, ⟨rfl, fun i _ => Dat.hok _⟩, by omega, by omega⟩
    | exact ⟨by omega, by omega, by omega⟩
    | (exfalso; omega)
    | (refine fin ?_; exact decide_eq_true c4)
    | (refine ⟨⟨rfl, fun i _ => Dat.hok _⟩, ⟨rfl, fun i _ => Dat.hok _⟩, show _ ≤ _ by omega⟩)
    | (exfalso; rw [vt, Int.toNat_natCast, ← ct] at h; revert h; unfold eqI_S; simp; done)
    | (exfalso; have := frontV_of c1; rw [h] at this; cases this)
    | fail
section
open Go.ChangeShapes Go.WideShapes Go.ChangeAt Go.RowKit Go.Joins Go.Deep
set_option linter.unusedVariables false
theorem prstays_own : ownKnob Tryd.prog.godebug = none := by kernel_rfl
theorem prstays_tab0 {W : World} (h : laidMetH Tryd.prog Rows.pairStaysUptoRow.laid W) : Lib.TabIs Tryd.prog W "internal/strconv.uint64pow10" .u64 Lib.pow10Tab := by
  have h2 : laidMet Tryd.prog (Rows.pairStaysUptoRow.laid.drop 2) W := laidMet.tail (laidMet.tail (h))
  have hT : (Tryd.prog.globals[0]?).map (·.type) = some 116 := by kernel_rfl
  have hz : Lib.pow10Tab = [1, 10, 100, 1000, 10000, 100000, 1000000, 10000000, 100000000, 1000000000, 10000000000, 100000000000, 1000000000000, 10000000000000, 100000000000000, 1000000000000000, 10000000000000000, 100000000000000000, 1000000000000000000, 10000000000000000000] := by decide +kernel
  rw [hz]
  exact Lib.tabIs_of_head (n := 20) (e := 107) (by kernel_rfl) hT (by kernel_rfl) (by kernel_rfl) (by kernel_rfl) (by kernel_rfl) h2
theorem prstays_dom {W : World} (h : laidMetH Tryd.prog Rows.pairStaysUptoRow.laid W) : Dom W fun _ => False := by
  have ht := prstays_tab0 h
  refine ⟨fun _ h => h.elim, fun g hg => ⟨?_, fun h => h⟩, ht⟩
  obtain rfl : g = 0 := by simpa [Kd.tl, kdI] using hg
  have hv := ht
  unfold Lib.TabIs World.var? at hv
  rw [show Tryd.prog.globalNamed "internal/strconv.uint64pow10" = some 0 by kernel_rfl] at hv
  rcases Nat.lt_or_ge 0 W.heap.size with q | q
  · exact q
  · simp [Array.getElem?_eq_none q] at hv
def prstays_setC (cs : Array Value) : Obj → Obj
  | .cells _ t frozen => .cells cs t frozen
  | o => o
noncomputable def prstays_laidWorld (os : Os) : World :=
  { World.holding Tryd.prog os ⟨#[], #[], []⟩ with heap := ((((World.holding Tryd.prog os ⟨#[], #[], []⟩).heap).modify 1 (prstays_setC #[.int .u8 0, .int .u8 1, .int .u8 28, .int .u8 2, .int .u8 29, .int .u8 14, .int .u8 24, .int .u8 3, .int .u8 30, .int .u8 22, .int .u8 20, .int .u8 15, .int .u8 25, .int .u8 17, .int .u8 4, .int .u8 8, .int .u8 31, .int .u8 27, .int .u8 13, .int .u8 23, .int .u8 21, .int .u8 19, .int .u8 16, .int .u8 7, .int .u8 26, .int .u8 12, .int .u8 18, .int .u8 6, .int .u8 11, .int .u8 5, .int .u8 10, .int .u8 9])).modify 2 (prstays_setC #[.int .u8 0, .int .u8 1, .int .u8 56, .int .u8 2, .int .u8 57, .int .u8 49, .int .u8 28, .int .u8 3, .int .u8 61, .int .u8 58, .int .u8 42, .int .u8 50, .int .u8 38, .int .u8 29, .int .u8 17, .int .u8 4, .int .u8 62, .int .u8 47, .int .u8 59, .int .u8 36, .int .u8 45, .int .u8 43, .int .u8 51, .int .u8 22, .int .u8 53, .int .u8 39, .int .u8 33, .int .u8 30, .int .u8 24, .int .u8 18, .int .u8 12, .int .u8 5, .int .u8 63, .int .u8 55, .int .u8 48, .int .u8 27, .int .u8 60, .int .u8 41, .int .u8 37, .int .u8 16, .int .u8 46, .int .u8 35, .int .u8 44, .int .u8 21, .int .u8 52, .int .u8 32, .int .u8 23, .int .u8 11, .int .u8 54, .int .u8 26, .int .u8 40, .int .u8 15, .int .u8 34, .int .u8 20, .int .u8 31, .int .u8 10, .int .u8 25, .int .u8 14, .int .u8 19, .int .u8 9, .int .u8 13, .int .u8 8, .int .u8 7, .int .u8 6])).modify 0 (prstays_setC #[.int .u64 1, .int .u64 10, .int .u64 100, .int .u64 1000, .int .u64 10000, .int .u64 100000, .int .u64 1000000, .int .u64 10000000, .int .u64 100000000, .int .u64 1000000000, .int .u64 10000000000, .int .u64 100000000000, .int .u64 1000000000000, .int .u64 10000000000000, .int .u64 100000000000000, .int .u64 1000000000000000, .int .u64 10000000000000000, .int .u64 100000000000000000, .int .u64 1000000000000000000, .int .u64 10000000000000000000]) }
theorem prstays_laid_met (os : Os) : laidMet Tryd.prog Rows.pairStaysUptoRow.laid ((prstays_laidWorld os).forCall (fun _ _ => 0) ⟨#[], #[.slice none 0 0, .int .i64 0, .slice none 0 0, .slice none 0 0], []⟩).memory :=
  laidMet_of_run' 8 (by kernel_rfl) (by kernel_rfl)
theorem prstays_reads (os : Os) {H : Type} (enc : TypeId × Value → H) : ∃ places, DataW.whole enc Tryd.prog ((prstays_laidWorld os).forCall (fun _ _ => 0) ⟨#[], #[.slice none 0 0, .int .i64 0, .slice none 0 0, .slice none 0 0], []⟩).memory Tryd.f6.params.toList Rows.pairStaysSpec.vars false (#[.slice none 0 0, .int .i64 0, .slice none 0 0, .slice none 0 0] : Array Value).toList 8 = some ([.nil, .lit (.int .i64 0), .nil, .nil], [], places) :=
  ⟨[], by kernel_rfl⟩
theorem prstays_laidOut : laidOutB Tryd.prog = true := by kernel_rfl
theorem prstays_readOk {ts : Array TypeId} (h : ts.toList.all (fun t => Tryd.prog.readableRec t && decide (t < Tryd.prog.types.size)) = true) : ∀ t ∈ ts.toList, Tryd.prog.readableRec t = true ∧ t < Tryd.prog.types.size := fun t ht => by
  have := List.all_eq_true.1 h t ht
  simpa using this
mutual
theorem prstays_bD {H : Type} : ∀ d : DataW H, Rows.uptoBulk d = bulkD d
  | .lit l => by cases l <;> simp [Rows.uptoBulk, bulkD]
  | .nil => by simp [Rows.uptoBulk, bulkD]
  | .ptr d => by simp [Rows.uptoBulk, bulkD, prstays_bD d]
  | .slice a b => by simp [Rows.uptoBulk, bulkD, prstays_bL a, prstays_bL b]
  | .agg a => by simp [Rows.uptoBulk, bulkD, prstays_bL a]
  | .iface _ d => by simp [Rows.uptoBulk, bulkD, prstays_bD d]
  | .map e => by simp [Rows.uptoBulk, bulkD, prstays_bE e]
  | .held _ => by simp [Rows.uptoBulk, bulkD]
theorem prstays_bL {H : Type} : ∀ d : List (DataW H), Rows.uptoBulkAll d = bulkL d
  | [] => by simp [Rows.uptoBulkAll, bulkL]
  | d :: r => by simp [Rows.uptoBulkAll, bulkL, prstays_bD d, prstays_bL r]
theorem prstays_bE {H : Type} : ∀ d : List (Lit × DataW H), Rows.uptoBulkEntries d = bulkE d
  | [] => by simp [Rows.uptoBulkEntries, bulkE]
  | d :: r => by simp [Rows.uptoBulkEntries, bulkE, prstays_bX d, prstays_bE r]
theorem prstays_bX {H : Type} : ∀ d : Lit × DataW H, Rows.uptoBulkEntry d = bulkX d
  | (l, d) => by cases l <;> simp [Rows.uptoBulkEntry, bulkX, prstays_bD d]
end
set_option maxRecDepth 100000 in
theorem prstays_lifted (os : Os) (started : os.Started) (H : Type) (enc : TypeId × Value → H) (F : Stop.Interp) :
    ReturnsInHanded {} Tryd.checked os 6 .any ((Rows.OpenSpec.upto Rows.pairStaysSpec).preRow enc Tryd.prog Tryd.f6 Rows.pairStaysUptoRow.domain false Rows.pairStaysUptoRow.laid) (((Rows.OpenSpec.upto Rows.pairStaysSpec).at F).post enc Tryd.prog Tryd.f6 false true false false) := by
  obtain ⟨places, hx⟩ := prstays_reads os enc
  refine returnsInHanded_of_row (C := Tryd.checked) (s := Rows.OpenSpec.upto Rows.pairStaysSpec) prstays_own started (by kernel_rfl) Tryd.func6
    (witness_row_at (enc := enc) (C := Tryd.checked) false (prstays_laidWorld os) #[.slice none 0 0, .int .i64 0, .slice none 0 0, .slice none 0 0] rfl (by kernel_rfl) (by kernel_rfl) (by kernel_rfl)
      (OpenSpec.preRow_of_cond 8 hx (by kernel_rfl) (fun k hk => by cases hk; kernel_rfl) (by kernel_rfl) (prstays_laid_met os))) ?_
  intro W base args ds gs before hval0 hW _ hk0 _ hL _ _
  have hk := hk0 _ rfl
  show Calls Tryd.prog 6 args W fun e W' => ∃ v, e = .returned v ∧ Rows.pairStaysSpec.post enc Tryd.prog Tryd.f6 false true false false W args v W'
  have hval : ∀ (j : Nat) t v, Tryd.f6.params[j]? = some t → args[j]? = some v → Value.okWide Tryd.prog W .any base t v := hval0
  have hW' := hW
  have hlt := hW.lt
  obtain ⟨p, q, hA0, hV, rfl, hfz, hnd⟩ := hW
  have hA : DataW.TrodAll enc Tryd.prog W 0 (fun _ => true) true Tryd.f6.params.toList args.toList ds p := hA0
  have hA1 := hA
  rw [Tryd.params6] at hA hval
  obtain ⟨v0, vs0, d0, ds0, p0, q0, hargs, rfl, rfl, h0, r0⟩ := trodAll_cons hA
  obtain ⟨v1, vs1, d1, ds1, p1, q1, rfl, rfl, rfl, h1, r1⟩ := trodAll_cons r0
  obtain ⟨v2, vs2, d2, ds2, p2, q2, rfl, rfl, rfl, h2, r2⟩ := trodAll_cons r1
  obtain ⟨v3, vs3, d3, ds3, p3, q3, rfl, rfl, rfl, h3, r3⟩ := trodAll_cons r2
  obtain ⟨rfl, rfl, rfl⟩ := trodAll_nil r3
  obtain rfl : args = #[v0, v1, v2, v3] := by cases args; simp_all
  obtain ⟨rfl, rfl⟩ := trodVars_none hV
  obtain ⟨z0, z'0, z''0, rfl⟩ := okWide_slice Tryd.underlying22 (hval 0 22 v0 rfl rfl)
  obtain ⟨y0, u0, b0, e0⟩ := arg_leaf (α := (List Ins)) (opn_slice Tryd.underlying22 (by kernel_rfl) (by decide) opn_Ins) rfl h0
  obtain ⟨z1, rfl⟩ := okWide_int Tryd.underlying3 (hval 1 3 v1 rfl rfl)
  obtain ⟨y1, u1, b1, e1⟩ := arg_leaf (α := Int) (opn_int Tryd.underlying3) rfl h1
  obtain ⟨z2, z'2, z''2, rfl⟩ := okWide_slice Tryd.underlying23 (hval 2 23 v2 rfl rfl)
  obtain ⟨y2, u2, b2, e2⟩ := arg_leaf (α := (List PairAct)) (opn_slice Tryd.underlying23 (by kernel_rfl) (by decide) opn_PairAct) rfl h2
  obtain ⟨z3, z'3, z''3, rfl⟩ := okWide_slice Tryd.underlying23 (hval 3 23 v3 rfl rfl)
  obtain ⟨y3, u3, b3, e3⟩ := arg_leaf (α := (List PairAct)) (opn_slice Tryd.underlying23 (by kernel_rfl) (by decide) opn_PairAct) rfl h3
  have hB : Siz.bulk y0 + Siz.bulk y1 + Siz.bulk y2 + Siz.bulk y3 ≤ 1048576 := by
    have h := of_decide_eq_true hk
    rw [prstays_bL] at h
    simp only [List.append_nil, bulkL] at h
    omega
  have hR := repL_cons (M := fun _ => False) (β := fun _ => none) (cp := fun _ => 0) (.c e0) (repL_cons (M := fun _ => False) (β := fun _ => none) (cp := fun _ => 0) (.c e1) (repL_cons (M := fun _ => False) (β := fun _ => none) (cp := fun _ => 0) (.c e2) (repL_cons (M := fun _ => False) (β := fun _ => none) (cp := fun _ => 0) (.c e3) (repL_nil))))
  refine (law_callsA (prstays_vc y0 y1 y2 y3 u0 u1 u2 u3 hB) hR (prstays_dom hL)).mono fun e W' ⟨he, bel⟩ => ?_
  subst he
  exact ⟨_, rfl, _, _, _, [], _, [], hW', trodAll_mk1 (shut_bool Tryd.underlying4 _), trodAll_below prstays_laidOut bel (prstays_readOk (by kernel_rfl)) (fun x hx => hlt x (List.mem_append_left _ hx)) hA1, rfl, bel.frame _, fun h => by cases h⟩
theorem prstays_bare : Rows.PairStaysUptoSaid :=
  OpenClaim.holds_of_cond 6 Tryd.f6 rfl rfl rfl rfl rfl rfl rfl ⟨rfl, rfl, rfl, rfl, rfl⟩ rfl rfl rfl rfl rfl (by kernel_rfl) Tryd.func6 (by kernel_rfl)
    (of_decide_eq_true (by kernel_rfl)) (by unfold Func.isWrapper; first | (rw [if_pos (by decide +kernel)]; kernel_rfl) | (rw [if_neg (by decide +kernel)]; exact ⟨rfl, rfl⟩))
    (fun os started H enc _ F => by rw [OpenClaim.pre_eq_preRow]; exact prstays_lifted os started H enc F)
theorem prstays_plain (f : FuncId) (fn : Func) (hf : Tryd.pinned.checked.prog.funcNamed "dutyroster/dutykeep.PairStays" = some f) (hfn : Tryd.pinned.checked.prog.funcs[f]? = some fn) :
    false = Tryd.pinned.checked.prog.looks [] ∧ ∀ (j : Nat) t, fn.params[j]? = some t → Tryd.pinned.checked.prog.wantsStandIn t = false := by
  obtain rfl : f = 6 := Option.some.inj ((show Tryd.prog.funcNamed "dutyroster/dutykeep.PairStays" = some 6 by kernel_rfl).symm.trans hf) |>.symm
  obtain rfl : fn = Tryd.f6 := (Option.some.inj (Tryd.func6.symm.trans hfn)).symm
  refine ⟨by kernel_rfl, fun j t ht => ?_⟩
  rw [Tryd.params6] at ht
  have hm := Array.mem_of_getElem? ht
  simp at hm
  rcases hm with rfl | rfl | rfl | rfl
  all_goals (show Tryd.prog.wantsStandIn _ = false; kernel_rfl)
set_option maxRecDepth 100000 in
theorem PairStays_proved : Rows.PairStaysUptoCardSaid :=
  Claim7.holds_tied_plain_at .later [] _ _ _ _ prstays_bare (fun _ h => by cases h) (by kernel_rfl) (fun _ h => by cases h) pairStaysUpto_row_tie rfl ⟨rfl, rfl⟩ (by kernel_rfl) rfl prstays_plain (by kernel_rfl)
end

end Go.Proofs.YtddkjgdfjkklcaaDoor
