/- Whatever has happened: who claims what is above all epochs, and works and sends long enough, lets all out; for all inputs. -/
import Derived.Test.YtddkjgdfjkklcaaDoorPairZ
import Derived.Test.YtddkjgdfjkklcaaDoorCards
import Derived.Test.YtddkjgdfjkklcaaDoorTie
import Derived.Deep.DeepHandedRow
import Derived.Stop.LaidErr
set_option linter.all false
namespace Go.Proofs.YtddkjgdfjkklcaaDoor
open Go Go.Abs

def clAct_R (r : Th ((List PairAct))) : AV := .own 0 fun _ => (r ()).length
def clAct_H (r : Th ((List PairAct))) : Hp := [vecO 41 fun _ => (r ())]
def clAct_P (l : (List PairAct)) : Prop := l.length ≤ 1099511627776
def clAct_C : PC := fun A K => match A with
  | [l] => Ob (fun _ => Leaf.ok (List PairAct) l ∧ clAct_P (Leaf.val l)) (Gen (α := (List PairAct)) (fun _ => (Leaf.val l)) fun r => K (clAct_R fun _ => r) (clAct_H fun _ => r))
  | _ => Bad 1002
set_option maxRecDepth 100000 in
set_option maxHeartbeats 4000000 in
theorem clAct_vc (l : (List PairAct)) (hp : clAct_P l) : FnOk Tryd.prog 14 [Leaf.av fun _ => l] [] (outA (clAct_R fun _ => l) (clAct_H fun _ => l)) := by
  refine fn_ok envOk zl noCon_ok noDraws_ok (keep := [0, 2, 4]) Tryd.func14 rfl ?_
  have hp' : l.length ≤ 1099511627776 := hp
  cbv
  repeat' first | (refine Stp.mk ?_; cbv) | (refine Gen.mk fun r hr => ?_; (try simp only [Dat.ok, Dat.dec, Leaf.ok, Leaf.val, Ins.eta, Vm.eta, Emit.eta, Fence.eta, Gate.eta, Give.eta, PairAct.eta, Node.eta, Pair.eta, val_sl, val_nil] at hr); cbv) | exact trivial | rfl | refine Both.mk ?_ ?_ | (refine Imp.mk fun h => ?_; (try dsimp only at h); (try simp only [nc, Int.toNat_natCast, ne_eq, zz] at h); (try simp only [nc] at h)) | refine Ob.mk ?_ ?_ | refine Chk.mk (by kernel_rfl) ?_ | refine Eq'.mk ?_ | (refine AllN.mk fun i hi => ?_; cbv) | (refine AllC.mk fun c hc hcm => ?_; (try dsimp only at hc); cbv) | (refine AllS.mk fun r hr => ?_; (try simp only [Dat.ok, Dat.dec, Leaf.ok, Leaf.val, Ins.eta, Vm.eta, Emit.eta, Fence.eta, Gate.eta, Give.eta, PairAct.eta, Node.eta, Pair.eta, val_sl] at hr); cbv)
  all_goals ((try dsimp only at *); (try simp only [nc, Int.toNat_natCast, ne_eq, zz] at *); (try simp only [nc] at *))
  all_goals first
    | omega
    | (exact ⟨Nat.le_refl _, trivial, by omega, by omega⟩)
    | (simp only [Nat.zero_add, Nat.sub_zero, Nat.not_lt_zero, decide_false, cond_false]; done)
    | (simp_all; done)
    | fail
theorem clAct_ok : PcOk Tryd.prog 14 (clAct_C) := fun A K h => by
  unfold clAct_C at h
  split at h
  · rename_i l
    cases h with
    | mk h1 h2 =>
      obtain ⟨g0, hp⟩ := h1
      refine FnOk.pre ?_ (A' := [Leaf.av fun _ => (Leaf.val l : (List PairAct))]) (.mk (Leaf.hle _ g0) (trivial))
      exact FnOk.out (K := fun r H _ => K r H) (clAct_vc (Leaf.val l) hp) rfl h2.out
  · cases h
noncomputable def cPA : FuncId → Con := fun f => match f with
  | 8 => frzCon (detPC playC_D)
  | 9 => pureCon (detPC plives_D)
  | 10 => frCon toldF_D
  | 14 => pureCon clAct_C
  | 18 => pureCon (detPC eqStr_D)
  | _ => fun _ _ _ => Bad 1001
theorem cPA_ok : ConOk Tryd.prog cPA := fun f A H K h => by
  unfold cPA at h
  split at h
  · exact ⟨⟨Tryd.f8, Tryd.func8, by kernel_rfl, by kernel_rfl⟩, frzCon_ok playC_ok h⟩
  · exact ⟨⟨Tryd.f9, Tryd.func9, by kernel_rfl, by kernel_rfl⟩, pureCon_ok plives_ok h⟩
  · exact ⟨⟨Tryd.f10, Tryd.func10, by kernel_rfl, by kernel_rfl⟩, frCon_ok toldF_okF h⟩
  · exact ⟨⟨Tryd.f14, Tryd.func14, by kernel_rfl, by kernel_rfl⟩, pureCon_ok clAct_ok h⟩
  · exact ⟨⟨Tryd.f18, Tryd.func18, by kernel_rfl, by kernel_rfl⟩, pureCon_ok eqStr_ok h⟩
  · cases h
def dPA : FuncId → Option Dt := fun f => match f with
  | 17 => some (.f newF_D)
  | 16 => some (.f runF_D)
  | _ => none
theorem dPA_ok : DetOk Tryd.prog dPA := fun f d h => by
  unfold dPA at h
  split at h
  · cases h; exact ⟨⟨Tryd.f17, Tryd.func17, by kernel_rfl, by kernel_rfl⟩, newF_okF⟩
  · cases h; exact ⟨⟨Tryd.f16, Tryd.func16, by kernel_rfl, by kernel_rfl⟩, runF_okF⟩
  · cases h
structure AlX (W : Int) where
  k : Nat
  hk : (k : Int) ≤ W
def preT (w : Int) : List PairAct := [⟨7, w, 0⟩]
def preF (_ : Int) : List PairAct := []
theorem snocR {l : List PairAct} {k : Nat} {a : PairAct} : l ++ List.replicate (k + 1) a = (l ++ List.replicate k a) ++ [a] := by rw [List.append_assoc, List.replicate_succ']
theorem acc1 {l : List PairAct} {b : PairAct} {i : Nat} {β : Type} (f : PairAct → β) (h : i < l.length + 1) : (bif decide (i < l.length) then f (l.getD i Dat.d0) else f b) = f ((l ++ [b]).getD i Dat.d0) := by
  by_cases h1 : i < l.length
  · rw [decide_eq_true h1, List.getD_eq_getElem?_getD, List.getD_eq_getElem?_getD, List.getElem?_append_left h1]; rfl
  · have e : i = l.length := by omega
    subst e
    rw [decide_eq_false h1, List.getD_eq_getElem?_getD, List.getD_eq_getElem?_getD, List.getElem?_append_right (Nat.le_refl _), Nat.sub_self]; rfl
theorem acc2 {l : List PairAct} {a b : PairAct} {i : Nat} {β : Type} (f : PairAct → β) (h : i < l.length + 1 + 1) : (bif decide (i < l.length + 1) then (bif decide (i < l.length) then f (l.getD i Dat.d0) else f a) else f b) = f ((l ++ [a] ++ [b]).getD i Dat.d0) := by
  have e : (l ++ [a]).length = l.length + 1 := by simp
  have := acc1 (l := l ++ [a]) (b := b) (i := i) f (by omega)
  rw [← this, e]
  by_cases h1 : i < l.length + 1
  · rw [decide_eq_true h1, cond_true, cond_true, acc1 f h1]
  · rw [decide_eq_false h1, cond_false, cond_false]
theorem acc0 {l : List PairAct} {b : PairAct} {i : Nat} {β : Type} (f : PairAct → β) (h : i < l.length + 1) : (bif decide (i < l.length) then f (l.getD i Dat.d0) else f b) = f ((l ++ [] ++ [b]).getD i Dat.d0) := by
  rw [List.append_nil]; exact acc1 f h
theorem len_rep {l : List PairAct} {k : Nat} {a : PairAct} : (l ++ List.replicate (k + 1) a).length = (l ++ List.replicate k a).length + 1 := by rw [snocR, List.length_append]; rfl
theorem len_repk {l : List PairAct} {k : Nat} {a : PairAct} : (l ++ List.replicate k a).length = l.length + k := by rw [List.length_append, List.length_replicate]
theorem told_len {code : List Ins} {log : List Int} : (toldV code log).1.length = (runV code v0 log 5000).2.1.length := List.length_map ..
theorem fence_bd {f : Fence} (h : chB f = true) : 0 ≤ f.epoch ∧ f.epoch ≤ 2147483647 := by
  unfold chB epB at h
  simp at h
  omega
attribute [local irreducible] playA toldV runV
set_option maxRecDepth 100000 in
set_option maxHeartbeats 4000000 in
theorem prall_vc (code : (List Ins)) (n : Int) (l : (List PairAct)) (who : Int) (anew : Bool) (fit_code : Siz.fit code) (fit_n : Siz.fit n) (fit_l : Siz.fit l) (fit_who : Siz.fit who) (fit_anew : Siz.fit anew) (hB : Siz.bulk code + Siz.bulk n + Siz.bulk l + Siz.bulk who + Siz.bulk anew ≤ 1048576) : FnOk Tryd.prog 7 [Leaf.av fun _ => code, .i .i64 fun _ => n, Leaf.av fun _ => l, .i .i64 fun _ => who, .b fun _ => anew] [] (outA (.bc true) []) := by
  refine fn_ok envOk zl cPA_ok (draws_ok envOk zl dPA_ok mixed) (keep := [0, 1, 2, 3, 4, 10, 11, 13, 14, 15, 16, 17, 21, 23, 25, 48, 71, 74, 103, 104, 105, 113, 114, 115, 124]) Tryd.func7 rfl ?_
  have fin := @fin_b
  have finc := @fin_t
  have e40 : maxLen ≤ 9223372036854775807 := by unfold maxLen; decide
  have lc : code.length ≤ 9223372036854775807 := Nat.le_trans fit_code.1 e40
  have hlb : l.length ≤ 1048576 := by
    have h1 := bulk_len PairAct.one_le l
    simp only [Siz.bulk] at hB h1
    omega
  clear hB
  generalize outA (.bc true) [] = K at fin finc
  cbv
  repeat' first | (show Stp _; exfalso; first | omega | (exact h ‹_›) | (exact absurd ‹_› h) | (exact Bool.false_ne_true (h.symm.trans (show _ = true by assumption)))) | (refine Stp.mk ?_; cbv) | (refine Gen.mk fun r hr => ?_; (try simp only [Dat.ok, Dat.dec, Leaf.ok, Leaf.val, Ins.eta, Vm.eta, Emit.eta, Fence.eta, Gate.eta, Give.eta, PairAct.eta, Node.eta, Pair.eta, val_sl, val_nil] at hr); cbv) | exact trivial | rfl | refine Both.mk ?_ ?_ | (refine Imp.mk fun h => ?_; (try dsimp only at h); (try simp only [nc, Int.toNat_natCast, ne_eq, zz] at h); (try simp only [nc] at h)) | refine Ob.mk ?_ ?_ | refine Chk.mk (by kernel_rfl) ?_ | refine Eq'.mk ?_ | (refine AllN.mk fun i hi => ?_; cbv) | (refine AllC.mk fun c hc hcm => ?_; (try dsimp only at hc); cbv) | (refine AllS.mk fun r hr => ?_; (try simp only [Dat.ok, Dat.dec, Leaf.ok, Leaf.val, Ins.eta, Vm.eta, Emit.eta, Fence.eta, Gate.eta, Give.eta, PairAct.eta, Node.eta, Pair.eta, val_sl] at hr); cbv)
  all_goals ((try dsimp only at *); (try simp only [nc, Int.toNat_natCast, ne_eq, zz] at *); (try simp only [nc] at *))
  all_goals try simp only [Dat.dec, Leaf.val, Ins.eta, Vm.eta, Emit.eta, Fence.eta, Gate.eta, Give.eta, PairAct.eta, Node.eta, Pair.eta, val_sl] at *
  all_goals try first
    | exact ⟨⟨rfl, fun i _ => Dat.hok _⟩, ⟨rfl, fun i _ => Dat.hok _⟩, lc, by omega⟩
    | exact finc
    | exact ⟨⟨rfl, fun i _ => Dat.hok _⟩, show _ ≤ _ by omega⟩
  all_goals try (have hr9 := hr.symm; clear hr; subst hr9)
  all_goals try first
    | exact ⟨Nat.le_refl _, Nat.le_refl _, by omega, by omega, Nat.le_refl _⟩
  all_goals have H0 : (playA code n l).2.2 = 0 := by assumption
  all_goals have P := play_st H0
  all_goals have hpl := (play_ok H0).2.2.2.1
  all_goals have hll := P.ll
  all_goals have fb := fence_bd P.fc
  all_goals have hE : (if (playA code n l).1.fence.epoch < (playA code n l).1.gate.fence.epoch then (playA code n l).1.gate.fence.epoch else (playA code n l).1.fence.epoch) + 1 = (playA code n l).1.fence.epoch + 1 := by rw [P.fg, if_neg (Int.lt_irrefl _)]
  all_goals have rb := @runV_bd code v0 (playA code n l).1.log 5000
  all_goals have td : (runV code v0 (playA code n l).1.log 5000).2.2.2.1.tdiv 50 = (runV code v0 (playA code n l).1.log 5000).2.2.2.1 / 50 := Int.tdiv_eq_ediv_of_nonneg rb.2.2.2.1
  all_goals have ev : newC_S = v0 := rfl
  all_goals try rw [ev] at *
  all_goals try first
    | (rw [hE]; unfold InR; omega)
    | (unfold InR; omega)
    | exact ⟨by decide, by unfold InR; omega⟩
    | exact ⟨⟨rfl, fun i _ => Dat.hok _⟩, ⟨rfl, fun i _ => Dat.hok _⟩, lc, by omega⟩
    | exact ⟨⟨rfl, fun i _ => Dat.hok _⟩, Dat.hok fun _ => v0, ⟨rfl, fun i _ => Dat.hok _⟩, lc, show _ ≤ _ by decide, show _ ≤ _ by omega⟩
  all_goals generalize hEq : (if (playA code n l).1.fence.epoch < (playA code n l).1.gate.fence.epoch then (playA code n l).1.gate.fence.epoch else (playA code n l).1.fence.epoch) + 1 = E at *
  all_goals have hW0 : 0 ≤ (runV code v0 (playA code n l).1.log 5000).2.2.2.1.tdiv 50 + (playA code n l).1.log.length + 2 ∧ (runV code v0 (playA code n l).1.log 5000).2.2.2.1.tdiv 50 + (playA code n l).1.log.length + 2 ≤ 1000 ∧ (runV code v0 (playA code n l).1.log 5000).2.2.2.1 + 50 * (playA code n l).1.log.length < 50 * ((runV code v0 (playA code n l).1.log 5000).2.2.2.1.tdiv 50 + (playA code n l).1.log.length + 2) := by omega
  all_goals generalize hWq : (runV code v0 (playA code n l).1.log 5000).2.2.2.1.tdiv 50 + ((playA code n l).1.log.length : Nat) + 2 = W at *
  all_goals have hOl : (toldV code (playA code n l).1.log).1.length ≤ 5000 := by (rw [told_len]; omega)
  all_goals (first
    | (have hA : anew = true := by assumption
       obtain ⟨pre, hpre⟩ : ∃ pre, pre = preT who := ⟨_, rfl⟩)
    | obtain ⟨pre, hpre⟩ : ∃ pre, pre = preF who := ⟨_, rfl⟩)
  all_goals have hpp : pre = [] ∨ pre = [⟨7, who, 0⟩] := by (rw [hpre]; first | exact .inl rfl | exact .inr rfl)
  all_goals (
    obtain ⟨B, hB⟩ : ∃ B, B = l ++ pre ++ [⟨2, who, E⟩] := ⟨_, rfl⟩
    have hBl : B.length ≤ l.length + 2 := by rw [hB, hpre]; simp [preT, preF]
    refine LoopVC.frame [17, 104, 105] (AlX W) (fun x => [(104, .i .i64 fun _ => x.k), (17, .own 1 fun _ => (B ++ List.replicate x.k (PairAct.mk 3 who 0)).length)]) (fun x => [(1, vecO 41 fun _ => B ++ List.replicate x.k (PairAct.mk 3 who 0))]) [1] (fun x => (W - x.k).toNat) ⟨0, by omega⟩ rfl (fun _ => rfl) ?_ ?_ fun ⟨k, hk⟩ => ?_
    · cbv
      repeat' first | (refine Stp.mk ?_; cbv) | (refine Gen.mk fun r hr => ?_; (try simp only [Dat.ok, Dat.dec, Leaf.ok, Leaf.val, Ins.eta, Vm.eta, Emit.eta, Fence.eta, Gate.eta, Give.eta, PairAct.eta, Node.eta, Pair.eta, val_sl, val_nil] at hr); cbv) | exact trivial | rfl | refine Both.mk ?_ ?_ | (refine Imp.mk fun h => ?_; (try dsimp only at h); (try simp only [nc, Int.toNat_natCast, ne_eq, zz] at h); (try simp only [nc] at h)) | refine Ob.mk ?_ ?_ | refine Chk.mk (by kernel_rfl) ?_ | refine Eq'.mk ?_ | (refine AllN.mk fun i hi => ?_; cbv) | (refine AllC.mk fun c hc hcm => ?_; (try dsimp only at hc); cbv) | (refine AllS.mk fun r hr => ?_; (try simp only [Dat.ok, Dat.dec, Leaf.ok, Leaf.val, Ins.eta, Vm.eta, Emit.eta, Fence.eta, Gate.eta, Give.eta, PairAct.eta, Node.eta, Pair.eta, val_sl] at hr); cbv)
      all_goals dsimp only
      all_goals first
        | (rw [hB, hpre]; simp [preT, preF]; done)
        | fail
    · cbv
      repeat' first | (refine Stp.mk ?_; cbv) | (refine Gen.mk fun r hr => ?_; (try simp only [Dat.ok, Dat.dec, Leaf.ok, Leaf.val, Ins.eta, Vm.eta, Emit.eta, Fence.eta, Gate.eta, Give.eta, PairAct.eta, Node.eta, Pair.eta, val_sl, val_nil] at hr); cbv) | exact trivial | rfl | refine Both.mk ?_ ?_ | (refine Imp.mk fun h => ?_; (try dsimp only at h); (try simp only [nc, Int.toNat_natCast, ne_eq, zz] at h); (try simp only [nc] at h)) | refine Ob.mk ?_ ?_ | refine Chk.mk (by kernel_rfl) ?_ | refine Eq'.mk ?_ | (refine AllN.mk fun i hi => ?_; cbv) | (refine AllC.mk fun c hc hcm => ?_; (try dsimp only at hc); cbv) | (refine AllS.mk fun r hr => ?_; (try simp only [Dat.ok, Dat.dec, Leaf.ok, Leaf.val, Ins.eta, Vm.eta, Emit.eta, Fence.eta, Gate.eta, Give.eta, PairAct.eta, Node.eta, Pair.eta, val_sl] at hr); cbv)
      all_goals dsimp only
      all_goals first
        | (rw [hB, hpre]; simp [preT, preF]; done)
        | (rw [hB, hpre, List.replicate_zero, List.append_nil]; first | exact acc2 (a := PairAct.mk 7 who 0) (b := PairAct.mk 2 who E) PairAct.kind (by assumption) | exact acc2 (a := PairAct.mk 7 who 0) (b := PairAct.mk 2 who E) PairAct.who (by assumption) | exact acc2 (a := PairAct.mk 7 who 0) (b := PairAct.mk 2 who E) PairAct.n (by assumption) | exact acc0 (b := PairAct.mk 2 who E) PairAct.kind (by assumption) | exact acc0 (b := PairAct.mk 2 who E) PairAct.who (by assumption) | exact acc0 (b := PairAct.mk 2 who E) PairAct.n (by assumption))
        | fail
    have hk9 : (k : Int) ≤ W := hk
    have lk := @len_repk B k (PairAct.mk 3 who 0)
    cbv
    repeat' first | (show Stp _; exfalso; first | omega | (exact h ‹_›) | (exact absurd ‹_› h) | (exact Bool.false_ne_true (h.symm.trans (show _ = true by assumption)))) | (refine Stp.mk ?_; cbv) | (refine Gen.mk fun r hr => ?_; (try simp only [Dat.ok, Dat.dec, Leaf.ok, Leaf.val, Ins.eta, Vm.eta, Emit.eta, Fence.eta, Gate.eta, Give.eta, PairAct.eta, Node.eta, Pair.eta, val_sl, val_nil] at hr); cbv) | exact trivial | rfl | refine Both.mk ?_ ?_ | (refine Imp.mk fun h => ?_; (try dsimp only at h); (try simp only [nc, Int.toNat_natCast, ne_eq, zz] at h); (try simp only [nc] at h)) | refine Ob.mk ?_ ?_ | refine Chk.mk (by kernel_rfl) ?_ | refine Eq'.mk ?_ | (refine AllN.mk fun i hi => ?_; cbv) | (refine AllC.mk fun c hc hcm => ?_; (try dsimp only at hc); cbv) | (refine AllS.mk fun r hr => ?_; (try simp only [Dat.ok, Dat.dec, Leaf.ok, Leaf.val, Ins.eta, Vm.eta, Emit.eta, Fence.eta, Gate.eta, Give.eta, PairAct.eta, Node.eta, Pair.eta, val_sl] at hr); cbv)
    all_goals ((try dsimp only at *); (try simp only [nc, Int.toNat_natCast, ne_eq, zz] at *); (try simp only [nc] at *))
    all_goals try rw [nc] at *
    all_goals try simp only [Dat.dec, Leaf.val, Ins.eta, Vm.eta, Emit.eta, Fence.eta, Gate.eta, Give.eta, PairAct.eta, Node.eta, Pair.eta, val_sl] at *
    all_goals try first
      | (unfold InR; omega)
      | exact ⟨Nat.le_refl _, Nat.le_refl _, by omega, by omega, Nat.le_refl _⟩
      | (have h9 : (k : Int) < W := h
         refine ⟨⟨k + 1, by omega⟩, ?_, ?_, rfl, by show (W - ((k + 1 : Nat) : Int)).toNat < (W - (k : Int)).toNat; omega⟩
         · cbv
           repeat' first | (refine Stp.mk ?_; cbv) | (refine Gen.mk fun r hr => ?_; (try simp only [Dat.ok, Dat.dec, Leaf.ok, Leaf.val, Ins.eta, Vm.eta, Emit.eta, Fence.eta, Gate.eta, Give.eta, PairAct.eta, Node.eta, Pair.eta, val_sl, val_nil] at hr); cbv) | exact trivial | rfl | refine Both.mk ?_ ?_ | (refine Imp.mk fun h => ?_; (try dsimp only at h); (try simp only [nc, Int.toNat_natCast, ne_eq, zz] at h); (try simp only [nc] at h)) | refine Ob.mk ?_ ?_ | refine Chk.mk (by kernel_rfl) ?_ | refine Eq'.mk ?_ | (refine AllN.mk fun i hi => ?_; cbv) | (refine AllC.mk fun c hc hcm => ?_; (try dsimp only at hc); cbv) | (refine AllS.mk fun r hr => ?_; (try simp only [Dat.ok, Dat.dec, Leaf.ok, Leaf.val, Ins.eta, Vm.eta, Emit.eta, Fence.eta, Gate.eta, Give.eta, PairAct.eta, Node.eta, Pair.eta, val_sl] at hr); cbv)
           all_goals dsimp only
           all_goals first
             | exact len_rep
             | exact len_rep.symm
             | fail
         · cbv
           repeat' first | (refine Stp.mk ?_; cbv) | (refine Gen.mk fun r hr => ?_; (try simp only [Dat.ok, Dat.dec, Leaf.ok, Leaf.val, Ins.eta, Vm.eta, Emit.eta, Fence.eta, Gate.eta, Give.eta, PairAct.eta, Node.eta, Pair.eta, val_sl, val_nil] at hr); cbv) | exact trivial | rfl | refine Both.mk ?_ ?_ | (refine Imp.mk fun h => ?_; (try dsimp only at h); (try simp only [nc, Int.toNat_natCast, ne_eq, zz] at h); (try simp only [nc] at h)) | refine Ob.mk ?_ ?_ | refine Chk.mk (by kernel_rfl) ?_ | refine Eq'.mk ?_ | (refine AllN.mk fun i hi => ?_; cbv) | (refine AllC.mk fun c hc hcm => ?_; (try dsimp only at hc); cbv) | (refine AllS.mk fun r hr => ?_; (try simp only [Dat.ok, Dat.dec, Leaf.ok, Leaf.val, Ins.eta, Vm.eta, Emit.eta, Fence.eta, Gate.eta, Give.eta, PairAct.eta, Node.eta, Pair.eta, val_sl] at hr); cbv)
           all_goals dsimp only
           all_goals first
             | exact len_rep
             | exact len_rep.symm
             | (rw [snocR]; first | exact acc1 (b := PairAct.mk 3 who 0) PairAct.kind (by assumption) | exact acc1 (b := PairAct.mk 3 who 0) PairAct.who (by assumption) | exact acc1 (b := PairAct.mk 3 who 0) PairAct.n (by assumption))
             | fail)
    have kW : (k : Int) = W := by
      have h9 : W ≤ (k : Int) := by assumption
      omega
    obtain ⟨C, hC⟩ : ∃ C, C = B ++ List.replicate k (PairAct.mk 3 who 0) := ⟨_, rfl⟩
    rw [← hC] at lk
    refine LoopVC.frame [17, 114, 115] (AlX ((toldV code (playA code n l).1.log).1.length : Nat)) (fun x => [(114, .i .i64 fun _ => x.k), (17, .own 1 fun _ => (C ++ List.replicate x.k (PairAct.mk 4 who 0)).length)]) (fun x => [(1, vecO 41 fun _ => C ++ List.replicate x.k (PairAct.mk 4 who 0))]) [1] (fun x => (((toldV code (playA code n l).1.log).1.length : Nat) - (x.k : Int)).toNat) ⟨0, by omega⟩ rfl (fun _ => rfl) ?_ ?_ fun ⟨j, hj⟩ => ?_
    · cbv
      repeat' first | (refine Stp.mk ?_; cbv) | (refine Gen.mk fun r hr => ?_; (try simp only [Dat.ok, Dat.dec, Leaf.ok, Leaf.val, Ins.eta, Vm.eta, Emit.eta, Fence.eta, Gate.eta, Give.eta, PairAct.eta, Node.eta, Pair.eta, val_sl, val_nil] at hr); cbv) | exact trivial | rfl | refine Both.mk ?_ ?_ | (refine Imp.mk fun h => ?_; (try dsimp only at h); (try simp only [nc, Int.toNat_natCast, ne_eq, zz] at h); (try simp only [nc] at h)) | refine Ob.mk ?_ ?_ | refine Chk.mk (by kernel_rfl) ?_ | refine Eq'.mk ?_ | (refine AllN.mk fun i hi => ?_; cbv) | (refine AllC.mk fun c hc hcm => ?_; (try dsimp only at hc); cbv) | (refine AllS.mk fun r hr => ?_; (try simp only [Dat.ok, Dat.dec, Leaf.ok, Leaf.val, Ins.eta, Vm.eta, Emit.eta, Fence.eta, Gate.eta, Give.eta, PairAct.eta, Node.eta, Pair.eta, val_sl] at hr); cbv)
      all_goals dsimp only
      all_goals first
        | (rw [hC, List.replicate_zero, List.append_nil]; done)
        | fail
    · cbv
      repeat' first | (refine Stp.mk ?_; cbv) | (refine Gen.mk fun r hr => ?_; (try simp only [Dat.ok, Dat.dec, Leaf.ok, Leaf.val, Ins.eta, Vm.eta, Emit.eta, Fence.eta, Gate.eta, Give.eta, PairAct.eta, Node.eta, Pair.eta, val_sl, val_nil] at hr); cbv) | exact trivial | rfl | refine Both.mk ?_ ?_ | (refine Imp.mk fun h => ?_; (try dsimp only at h); (try simp only [nc, Int.toNat_natCast, ne_eq, zz] at h); (try simp only [nc] at h)) | refine Ob.mk ?_ ?_ | refine Chk.mk (by kernel_rfl) ?_ | refine Eq'.mk ?_ | (refine AllN.mk fun i hi => ?_; cbv) | (refine AllC.mk fun c hc hcm => ?_; (try dsimp only at hc); cbv) | (refine AllS.mk fun r hr => ?_; (try simp only [Dat.ok, Dat.dec, Leaf.ok, Leaf.val, Ins.eta, Vm.eta, Emit.eta, Fence.eta, Gate.eta, Give.eta, PairAct.eta, Node.eta, Pair.eta, val_sl] at hr); cbv)
      all_goals dsimp only
      all_goals first
        | (rw [hC, List.replicate_zero, List.append_nil]; done)
        | fail
    have hj9 : (j : Int) ≤ ((toldV code (playA code n l).1.log).1.length : Nat) := hj
    have lj := @len_repk C j (PairAct.mk 4 who 0)
    cbv
    repeat' first | (show Stp _; exfalso; first | omega | (exact h ‹_›) | (exact absurd ‹_› h) | (exact Bool.false_ne_true (h.symm.trans (show _ = true by assumption)))) | (refine Stp.mk ?_; cbv) | (refine Gen.mk fun r hr => ?_; (try simp only [Dat.ok, Dat.dec, Leaf.ok, Leaf.val, Ins.eta, Vm.eta, Emit.eta, Fence.eta, Gate.eta, Give.eta, PairAct.eta, Node.eta, Pair.eta, val_sl, val_nil] at hr); cbv) | exact trivial | rfl | refine Both.mk ?_ ?_ | (refine Imp.mk fun h => ?_; (try dsimp only at h); (try simp only [nc, Int.toNat_natCast, ne_eq, zz] at h); (try simp only [nc] at h)) | refine Ob.mk ?_ ?_ | refine Chk.mk (by kernel_rfl) ?_ | refine Eq'.mk ?_ | (refine AllN.mk fun i hi => ?_; cbv) | (refine AllC.mk fun c hc hcm => ?_; (try dsimp only at hc); cbv) | (refine AllS.mk fun r hr => ?_; (try simp only [Dat.ok, Dat.dec, Leaf.ok, Leaf.val, Ins.eta, Vm.eta, Emit.eta, Fence.eta, Gate.eta, Give.eta, PairAct.eta, Node.eta, Pair.eta, val_sl] at hr); cbv)
    all_goals ((try dsimp only at *); (try simp only [nc, Int.toNat_natCast, ne_eq, zz] at *); (try simp only [nc] at *))
    all_goals try rw [nc] at *
    all_goals try simp only [Dat.dec, Leaf.val, Ins.eta, Vm.eta, Emit.eta, Fence.eta, Gate.eta, Give.eta, PairAct.eta, Node.eta, Pair.eta, val_sl] at *
    all_goals try first
      | (unfold InR; omega)
      | exact ⟨Nat.le_refl _, Nat.le_refl _, by omega, by omega, Nat.le_refl _⟩
      | exact finc
      | (have h9 : (j : Int) < ((toldV code (playA code n l).1.log).1.length : Nat) := h
         refine ⟨⟨j + 1, by omega⟩, ?_, ?_, rfl, by show ((((toldV code (playA code n l).1.log).1.length : Nat) : Int) - ((j + 1 : Nat) : Int)).toNat < ((((toldV code (playA code n l).1.log).1.length : Nat) : Int) - (j : Int)).toNat; omega⟩
         · cbv
           repeat' first | (refine Stp.mk ?_; cbv) | (refine Gen.mk fun r hr => ?_; (try simp only [Dat.ok, Dat.dec, Leaf.ok, Leaf.val, Ins.eta, Vm.eta, Emit.eta, Fence.eta, Gate.eta, Give.eta, PairAct.eta, Node.eta, Pair.eta, val_sl, val_nil] at hr); cbv) | exact trivial | rfl | refine Both.mk ?_ ?_ | (refine Imp.mk fun h => ?_; (try dsimp only at h); (try simp only [nc, Int.toNat_natCast, ne_eq, zz] at h); (try simp only [nc] at h)) | refine Ob.mk ?_ ?_ | refine Chk.mk (by kernel_rfl) ?_ | refine Eq'.mk ?_ | (refine AllN.mk fun i hi => ?_; cbv) | (refine AllC.mk fun c hc hcm => ?_; (try dsimp only at hc); cbv) | (refine AllS.mk fun r hr => ?_; (try simp only [Dat.ok, Dat.dec, Leaf.ok, Leaf.val, Ins.eta, Vm.eta, Emit.eta, Fence.eta, Gate.eta, Give.eta, PairAct.eta, Node.eta, Pair.eta, val_sl] at hr); cbv)
           all_goals dsimp only
           all_goals first
             | exact len_rep
             | exact len_rep.symm
             | fail
         · cbv
           repeat' first | (refine Stp.mk ?_; cbv) | (refine Gen.mk fun r hr => ?_; (try simp only [Dat.ok, Dat.dec, Leaf.ok, Leaf.val, Ins.eta, Vm.eta, Emit.eta, Fence.eta, Gate.eta, Give.eta, PairAct.eta, Node.eta, Pair.eta, val_sl, val_nil] at hr); cbv) | exact trivial | rfl | refine Both.mk ?_ ?_ | (refine Imp.mk fun h => ?_; (try dsimp only at h); (try simp only [nc, Int.toNat_natCast, ne_eq, zz] at h); (try simp only [nc] at h)) | refine Ob.mk ?_ ?_ | refine Chk.mk (by kernel_rfl) ?_ | refine Eq'.mk ?_ | (refine AllN.mk fun i hi => ?_; cbv) | (refine AllC.mk fun c hc hcm => ?_; (try dsimp only at hc); cbv) | (refine AllS.mk fun r hr => ?_; (try simp only [Dat.ok, Dat.dec, Leaf.ok, Leaf.val, Ins.eta, Vm.eta, Emit.eta, Fence.eta, Gate.eta, Give.eta, PairAct.eta, Node.eta, Pair.eta, val_sl] at hr); cbv)
           all_goals dsimp only
           all_goals first
             | exact len_rep
             | exact len_rep.symm
             | (rw [snocR]; first | exact acc1 (b := PairAct.mk 4 who 0) PairAct.kind (by assumption) | exact acc1 (b := PairAct.mk 4 who 0) PairAct.who (by assumption) | exact acc1 (b := PairAct.mk 4 who 0) PairAct.n (by assumption))
             | fail)
    all_goals have jq : j = (toldV code (playA code n l).1.log).1.length := by omega
    all_goals have AL := all_law (W := k) (pre := pre) (w := who) (E := E) (more := C ++ List.replicate j (PairAct.mk 4 who 0)) H0 (by assumption) (by assumption) (by omega) (by omega) (by assumption) (by assumption) (by rw [kW]; omega) hpp (by rw [hC, hB, jq]) (by omega)
    all_goals first
      | exact Nat.le_refl _
      | exact ⟨⟨rfl, fun i _ => Dat.hok _⟩, ⟨rfl, fun i _ => Dat.hok _⟩, lc, by omega⟩
      | exact ⟨⟨rfl, fun i _ => Dat.hok _⟩, ⟨rfl, fun i _ => Dat.hok _⟩, by show _ ≤ _; rw [AL.2]; omega⟩
      | (refine fin ?_
         rw [AL.2]
         unfold eqStr_S
         simp
         done)
      | (exfalso
         exact absurd AL.1 (by assumption))
      | fail)
section
open Go.ChangeShapes Go.WideShapes Go.ChangeAt Go.RowKit Go.Joins Go.Deep
set_option linter.unusedVariables false
theorem prall_own : ownKnob Tryd.prog.godebug = none := by kernel_rfl
theorem prall_tab0 {W : World} (h : laidMetH Tryd.prog Rows.pairAllUptoRow.laid W) : Lib.TabIs Tryd.prog W "internal/strconv.uint64pow10" .u64 Lib.pow10Tab := by
  have h2 : laidMet Tryd.prog (Rows.pairAllUptoRow.laid.drop 2) W := laidMet.tail (laidMet.tail (h))
  have hT : (Tryd.prog.globals[0]?).map (·.type) = some 116 := by kernel_rfl
  have hz : Lib.pow10Tab = [1, 10, 100, 1000, 10000, 100000, 1000000, 10000000, 100000000, 1000000000, 10000000000, 100000000000, 1000000000000, 10000000000000, 100000000000000, 1000000000000000, 10000000000000000, 100000000000000000, 1000000000000000000, 10000000000000000000] := by decide +kernel
  rw [hz]
  exact Lib.tabIs_of_head (n := 20) (e := 107) (by kernel_rfl) hT (by kernel_rfl) (by kernel_rfl) (by kernel_rfl) (by kernel_rfl) h2
theorem prall_dom {W : World} (h : laidMetH Tryd.prog Rows.pairAllUptoRow.laid W) : Dom W fun _ => False := by
  have ht := prall_tab0 h
  refine ⟨fun _ h => h.elim, fun g hg => ⟨?_, fun h => h⟩, ht⟩
  obtain rfl : g = 0 := by simpa [Kd.tl, kdI] using hg
  have hv := ht
  unfold Lib.TabIs World.var? at hv
  rw [show Tryd.prog.globalNamed "internal/strconv.uint64pow10" = some 0 by kernel_rfl] at hv
  rcases Nat.lt_or_ge 0 W.heap.size with q | q
  · exact q
  · simp [Array.getElem?_eq_none q] at hv
def prall_setC (cs : Array Value) : Obj → Obj
  | .cells _ t frozen => .cells cs t frozen
  | o => o
noncomputable def prall_laidWorld (os : Os) : World :=
  { World.holding Tryd.prog os ⟨#[], #[], []⟩ with heap := ((((World.holding Tryd.prog os ⟨#[], #[], []⟩).heap).modify 1 (prall_setC #[.int .u8 0, .int .u8 1, .int .u8 28, .int .u8 2, .int .u8 29, .int .u8 14, .int .u8 24, .int .u8 3, .int .u8 30, .int .u8 22, .int .u8 20, .int .u8 15, .int .u8 25, .int .u8 17, .int .u8 4, .int .u8 8, .int .u8 31, .int .u8 27, .int .u8 13, .int .u8 23, .int .u8 21, .int .u8 19, .int .u8 16, .int .u8 7, .int .u8 26, .int .u8 12, .int .u8 18, .int .u8 6, .int .u8 11, .int .u8 5, .int .u8 10, .int .u8 9])).modify 2 (prall_setC #[.int .u8 0, .int .u8 1, .int .u8 56, .int .u8 2, .int .u8 57, .int .u8 49, .int .u8 28, .int .u8 3, .int .u8 61, .int .u8 58, .int .u8 42, .int .u8 50, .int .u8 38, .int .u8 29, .int .u8 17, .int .u8 4, .int .u8 62, .int .u8 47, .int .u8 59, .int .u8 36, .int .u8 45, .int .u8 43, .int .u8 51, .int .u8 22, .int .u8 53, .int .u8 39, .int .u8 33, .int .u8 30, .int .u8 24, .int .u8 18, .int .u8 12, .int .u8 5, .int .u8 63, .int .u8 55, .int .u8 48, .int .u8 27, .int .u8 60, .int .u8 41, .int .u8 37, .int .u8 16, .int .u8 46, .int .u8 35, .int .u8 44, .int .u8 21, .int .u8 52, .int .u8 32, .int .u8 23, .int .u8 11, .int .u8 54, .int .u8 26, .int .u8 40, .int .u8 15, .int .u8 34, .int .u8 20, .int .u8 31, .int .u8 10, .int .u8 25, .int .u8 14, .int .u8 19, .int .u8 9, .int .u8 13, .int .u8 8, .int .u8 7, .int .u8 6])).modify 0 (prall_setC #[.int .u64 1, .int .u64 10, .int .u64 100, .int .u64 1000, .int .u64 10000, .int .u64 100000, .int .u64 1000000, .int .u64 10000000, .int .u64 100000000, .int .u64 1000000000, .int .u64 10000000000, .int .u64 100000000000, .int .u64 1000000000000, .int .u64 10000000000000, .int .u64 100000000000000, .int .u64 1000000000000000, .int .u64 10000000000000000, .int .u64 100000000000000000, .int .u64 1000000000000000000, .int .u64 10000000000000000000]) }
theorem prall_laid_met (os : Os) : laidMet Tryd.prog Rows.pairAllUptoRow.laid ((prall_laidWorld os).forCall (fun _ _ => 0) ⟨#[], #[.slice none 0 0, .int .i64 0, .slice none 0 0, .int .i64 0, .bool false], []⟩).memory :=
  laidMet_of_run' 8 (by kernel_rfl) (by kernel_rfl)
theorem prall_reads (os : Os) {H : Type} (enc : TypeId × Value → H) : ∃ places, DataW.whole enc Tryd.prog ((prall_laidWorld os).forCall (fun _ _ => 0) ⟨#[], #[.slice none 0 0, .int .i64 0, .slice none 0 0, .int .i64 0, .bool false], []⟩).memory Tryd.f7.params.toList Rows.pairAllSpec.vars false (#[.slice none 0 0, .int .i64 0, .slice none 0 0, .int .i64 0, .bool false] : Array Value).toList 8 = some ([.nil, .lit (.int .i64 0), .nil, .lit (.int .i64 0), .lit (.bool false)], [], places) :=
  ⟨[], by kernel_rfl⟩
theorem prall_laidOut : laidOutB Tryd.prog = true := by kernel_rfl
theorem prall_readOk {ts : Array TypeId} (h : ts.toList.all (fun t => Tryd.prog.readableRec t && decide (t < Tryd.prog.types.size)) = true) : ∀ t ∈ ts.toList, Tryd.prog.readableRec t = true ∧ t < Tryd.prog.types.size := fun t ht => by
  have := List.all_eq_true.1 h t ht
  simpa using this
mutual
theorem prall_bD {H : Type} : ∀ d : DataW H, Rows.uptoBulk d = bulkD d
  | .lit l => by cases l <;> simp [Rows.uptoBulk, bulkD]
  | .nil => by simp [Rows.uptoBulk, bulkD]
  | .ptr d => by simp [Rows.uptoBulk, bulkD, prall_bD d]
  | .slice a b => by simp [Rows.uptoBulk, bulkD, prall_bL a, prall_bL b]
  | .agg a => by simp [Rows.uptoBulk, bulkD, prall_bL a]
  | .iface _ d => by simp [Rows.uptoBulk, bulkD, prall_bD d]
  | .map e => by simp [Rows.uptoBulk, bulkD, prall_bE e]
  | .held _ => by simp [Rows.uptoBulk, bulkD]
theorem prall_bL {H : Type} : ∀ d : List (DataW H), Rows.uptoBulkAll d = bulkL d
  | [] => by simp [Rows.uptoBulkAll, bulkL]
  | d :: r => by simp [Rows.uptoBulkAll, bulkL, prall_bD d, prall_bL r]
theorem prall_bE {H : Type} : ∀ d : List (Lit × DataW H), Rows.uptoBulkEntries d = bulkE d
  | [] => by simp [Rows.uptoBulkEntries, bulkE]
  | d :: r => by simp [Rows.uptoBulkEntries, bulkE, prall_bX d, prall_bE r]
theorem prall_bX {H : Type} : ∀ d : Lit × DataW H, Rows.uptoBulkEntry d = bulkX d
  | (l, d) => by cases l <;> simp [Rows.uptoBulkEntry, bulkX, prall_bD d]
end
set_option maxRecDepth 100000 in
theorem prall_lifted (os : Os) (started : os.Started) (H : Type) (enc : TypeId × Value → H) (F : Stop.Interp) :
    ReturnsInHanded {} Tryd.checked os 7 .any ((Rows.OpenSpec.upto Rows.pairAllSpec).preRow enc Tryd.prog Tryd.f7 Rows.pairAllUptoRow.domain false Rows.pairAllUptoRow.laid) (((Rows.OpenSpec.upto Rows.pairAllSpec).at F).post enc Tryd.prog Tryd.f7 false true false false) := by
  obtain ⟨places, hx⟩ := prall_reads os enc
  refine returnsInHanded_of_row (C := Tryd.checked) (s := Rows.OpenSpec.upto Rows.pairAllSpec) prall_own started (by kernel_rfl) Tryd.func7
    (witness_row_at (enc := enc) (C := Tryd.checked) false (prall_laidWorld os) #[.slice none 0 0, .int .i64 0, .slice none 0 0, .int .i64 0, .bool false] rfl (by kernel_rfl) (by kernel_rfl) (by kernel_rfl)
      (OpenSpec.preRow_of_cond 8 hx (by kernel_rfl) (fun k hk => by cases hk; kernel_rfl) (by kernel_rfl) (prall_laid_met os))) ?_
  intro W base args ds gs before hval0 hW _ hk0 _ hL _ _
  have hk := hk0 _ rfl
  show Calls Tryd.prog 7 args W fun e W' => ∃ v, e = .returned v ∧ Rows.pairAllSpec.post enc Tryd.prog Tryd.f7 false true false false W args v W'
  have hval : ∀ (j : Nat) t v, Tryd.f7.params[j]? = some t → args[j]? = some v → Value.okWide Tryd.prog W .any base t v := hval0
  have hW' := hW
  have hlt := hW.lt
  obtain ⟨p, q, hA0, hV, rfl, hfz, hnd⟩ := hW
  have hA : DataW.TrodAll enc Tryd.prog W 0 (fun _ => true) true Tryd.f7.params.toList args.toList ds p := hA0
  have hA1 := hA
  rw [Tryd.params7] at hA hval
  obtain ⟨v0, vs0, d0, ds0, p0, q0, hargs, rfl, rfl, h0, r0⟩ := trodAll_cons hA
  obtain ⟨v1, vs1, d1, ds1, p1, q1, rfl, rfl, rfl, h1, r1⟩ := trodAll_cons r0
  obtain ⟨v2, vs2, d2, ds2, p2, q2, rfl, rfl, rfl, h2, r2⟩ := trodAll_cons r1
  obtain ⟨v3, vs3, d3, ds3, p3, q3, rfl, rfl, rfl, h3, r3⟩ := trodAll_cons r2
  obtain ⟨v4, vs4, d4, ds4, p4, q4, rfl, rfl, rfl, h4, r4⟩ := trodAll_cons r3
  obtain ⟨rfl, rfl, rfl⟩ := trodAll_nil r4
  obtain rfl : args = #[v0, v1, v2, v3, v4] := by cases args; simp_all
  obtain ⟨rfl, rfl⟩ := trodVars_none hV
  obtain ⟨z0, z'0, z''0, rfl⟩ := okWide_slice Tryd.underlying22 (hval 0 22 v0 rfl rfl)
  obtain ⟨y0, u0, b0, e0⟩ := arg_leaf (α := (List Ins)) (opn_slice Tryd.underlying22 (by kernel_rfl) (by decide) opn_Ins) rfl h0
  obtain ⟨z1, rfl⟩ := okWide_int Tryd.underlying3 (hval 1 3 v1 rfl rfl)
  obtain ⟨y1, u1, b1, e1⟩ := arg_leaf (α := Int) (opn_int Tryd.underlying3) rfl h1
  obtain ⟨z2, z'2, z''2, rfl⟩ := okWide_slice Tryd.underlying23 (hval 2 23 v2 rfl rfl)
  obtain ⟨y2, u2, b2, e2⟩ := arg_leaf (α := (List PairAct)) (opn_slice Tryd.underlying23 (by kernel_rfl) (by decide) opn_PairAct) rfl h2
  obtain ⟨z3, rfl⟩ := okWide_int Tryd.underlying3 (hval 3 3 v3 rfl rfl)
  obtain ⟨y3, u3, b3, e3⟩ := arg_leaf (α := Int) (opn_int Tryd.underlying3) rfl h3
  obtain ⟨z4, rfl⟩ := okWide_bool Tryd.underlying4 (hval 4 4 v4 rfl rfl)
  obtain ⟨y4, u4, b4, e4⟩ := arg_leaf (α := Bool) (opn_bool Tryd.underlying4) rfl h4
  have hB : Siz.bulk y0 + Siz.bulk y1 + Siz.bulk y2 + Siz.bulk y3 + Siz.bulk y4 ≤ 1048576 := by
    have h := of_decide_eq_true hk
    rw [prall_bL] at h
    simp only [List.append_nil, bulkL] at h
    omega
  have hR := repL_cons (M := fun _ => False) (β := fun _ => none) (cp := fun _ => 0) (.c e0) (repL_cons (M := fun _ => False) (β := fun _ => none) (cp := fun _ => 0) (.c e1) (repL_cons (M := fun _ => False) (β := fun _ => none) (cp := fun _ => 0) (.c e2) (repL_cons (M := fun _ => False) (β := fun _ => none) (cp := fun _ => 0) (.c e3) (repL_cons (M := fun _ => False) (β := fun _ => none) (cp := fun _ => 0) (.c e4) (repL_nil)))))
  refine (law_callsA (prall_vc y0 y1 y2 y3 y4 u0 u1 u2 u3 u4 hB) hR (prall_dom hL)).mono fun e W' ⟨he, bel⟩ => ?_
  subst he
  exact ⟨_, rfl, _, _, _, [], _, [], hW', trodAll_mk1 (shut_bool Tryd.underlying4 _), trodAll_below prall_laidOut bel (prall_readOk (by kernel_rfl)) (fun x hx => hlt x (List.mem_append_left _ hx)) hA1, rfl, bel.frame _, fun h => by cases h⟩
theorem prall_bare : Rows.PairAllUptoSaid :=
  OpenClaim.holds_of_cond 7 Tryd.f7 rfl rfl rfl rfl rfl rfl rfl ⟨rfl, rfl, rfl, rfl, rfl⟩ rfl rfl rfl rfl rfl (by kernel_rfl) Tryd.func7 (by kernel_rfl)
    (of_decide_eq_true (by kernel_rfl)) (by unfold Func.isWrapper; first | (rw [if_pos (by decide +kernel)]; kernel_rfl) | (rw [if_neg (by decide +kernel)]; exact ⟨rfl, rfl⟩))
    (fun os started H enc _ F => by rw [OpenClaim.pre_eq_preRow]; exact prall_lifted os started H enc F)
theorem prall_plain (f : FuncId) (fn : Func) (hf : Tryd.pinned.checked.prog.funcNamed "dutyroster/dutykeep.PairAll" = some f) (hfn : Tryd.pinned.checked.prog.funcs[f]? = some fn) :
    false = Tryd.pinned.checked.prog.looks [] ∧ ∀ (j : Nat) t, fn.params[j]? = some t → Tryd.pinned.checked.prog.wantsStandIn t = false := by
  obtain rfl : f = 7 := Option.some.inj ((show Tryd.prog.funcNamed "dutyroster/dutykeep.PairAll" = some 7 by kernel_rfl).symm.trans hf) |>.symm
  obtain rfl : fn = Tryd.f7 := (Option.some.inj (Tryd.func7.symm.trans hfn)).symm
  refine ⟨by kernel_rfl, fun j t ht => ?_⟩
  rw [Tryd.params7] at ht
  have hm := Array.mem_of_getElem? ht
  simp at hm
  rcases hm with rfl | rfl | rfl | rfl | rfl
  all_goals (show Tryd.prog.wantsStandIn _ = false; kernel_rfl)
set_option maxRecDepth 100000 in
theorem PairAll_proved : Rows.PairAllUptoCardSaid :=
  Claim7.holds_tied_plain_at .later [] _ _ _ _ prall_bare (fun _ h => by cases h) (by kernel_rfl) (fun _ h => by cases h) pairAllUpto_row_tie rfl ⟨rfl, rfl⟩ (by kernel_rfl) rfl prall_plain (by kernel_rfl)
end

end Go.Proofs.YtddkjgdfjkklcaaDoor
