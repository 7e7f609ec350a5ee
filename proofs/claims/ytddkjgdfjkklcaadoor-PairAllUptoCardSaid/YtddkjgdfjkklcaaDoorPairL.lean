/- pairs: one that lives; what a program lets out; a begin. -/
import Derived.Test.YtddkjgdfjkklcaaDoorPairX
import Derived.Test.YtddkjgdfjkklcaaDoorAbsG4
set_option linter.all false
namespace Go.Proofs.YtddkjgdfjkklcaaDoor
open Go Go.Abs

structure eqErr_X (l m : List Int) where
  k : Nat
  hk : k ≤ l.length
  hv : ∀ j, j < k → l.getD j Dat.d0 = m.getD j Dat.d0
def eqErr_R (r : Th (Bool)) : AV := .b fun _ => (r ())
def eqErr_S (l : (List Int)) (m : (List Int)) : Bool := decide (l = m)
def eqErr_P (l : (List Int)) (m : (List Int)) : Prop := l.length ≤ 9223372036854775807
def eqErr_D : Det := fun A => match A with
  | [l, m] => some (fun _ => Leaf.ok (List Int) l ∧ Leaf.ok (List Int) m ∧ eqErr_P (Leaf.val l) (Leaf.val m), eqErr_R fun _ => eqErr_S (Leaf.val l) (Leaf.val m))
  | _ => none
set_option maxRecDepth 100000 in
set_option maxHeartbeats 4000000 in
theorem eqErr_vc (l : (List Int)) (m : (List Int)) (hp : eqErr_P l m) : FnOk Tryd.prog 23 [Leaf.av fun _ => l, Leaf.av fun _ => m] [] (outA (eqErr_R fun _ => eqErr_S l m) []) := by
  refine fn_ok envOk zl noCon_ok (draws_ok envOk zl noDet_ok mixed) (keep := [0, 1, 4, 5, 10, 12, 13, 14, 24]) Tryd.func23 rfl ?_
  have hp' : l.length ≤ 9223372036854775807 := hp
  have fin : ∀ (b : Bool) H kl, b = decide (l = m) → outA (eqErr_R fun _ => eqErr_S l m) [] (.bc b) H kl := by
    rintro b H kl rfl
    cbv
    repeat' first | (refine Stp.mk ?_; cbv) | (refine Gen.mk fun r hr => ?_; (try simp only [Dat.ok, Dat.dec, Leaf.ok, Leaf.val, Ins.eta, Vm.eta, Emit.eta, Fence.eta, Gate.eta, Give.eta, PairAct.eta, Node.eta, Pair.eta, val_sl, val_nil] at hr); cbv) | exact trivial | rfl | refine Both.mk ?_ ?_ | (refine Imp.mk fun h => ?_; (try dsimp only at h); (try simp only [nc, Int.toNat_natCast, ne_eq, zz] at h); (try simp only [nc] at h)) | refine Ob.mk ?_ ?_ | refine Chk.mk (by kernel_rfl) ?_ | refine Eq'.mk ?_ | (refine AllN.mk fun i hi => ?_; cbv) | (refine AllC.mk fun c hc hcm => ?_; (try dsimp only at hc); cbv) | (refine AllS.mk fun r hr => ?_; (try simp only [Dat.ok, Dat.dec, Leaf.ok, Leaf.val, Ins.eta, Vm.eta, Emit.eta, Fence.eta, Gate.eta, Give.eta, PairAct.eta, Node.eta, Pair.eta, val_sl] at hr); cbv)
  generalize outA (eqErr_R fun _ => eqErr_S l m) [] = K at fin
  cbv
  refine Both.mk (Imp.mk fun h1 => ?_) (Imp.mk fun h1 => ?_)
  all_goals (refine Stp.mk ?_; cbv; (try dsimp only at h1); (try simp only [nc, Int.toNat_natCast, ne_eq, zz] at h1); (try simp only [nc] at h1))
  · refine fin _ _ _ ?_
    exact (decide_eq_false (fun h => by subst h; omega)).symm
  · have hlen : l.length = m.length := by omega
    refine LoopVC.frame [4, 5, 13, 14, 24] (eqErr_X l m) (fun x => [(13, .i .i64 fun _ => x.k)]) (fun _ => []) [] (fun x => l.length - x.k)
      ⟨0, Nat.zero_le _, fun j hj => absurd hj (Nat.not_lt_zero _)⟩ rfl (fun _ => rfl) ?_ ?_ fun ⟨k, hk, hv⟩ => ?_
    · cbv
      repeat' first | (refine Stp.mk ?_; cbv) | (refine Gen.mk fun r hr => ?_; (try simp only [Dat.ok, Dat.dec, Leaf.ok, Leaf.val, Ins.eta, Vm.eta, Emit.eta, Fence.eta, Gate.eta, Give.eta, PairAct.eta, Node.eta, Pair.eta, val_sl, val_nil] at hr); cbv) | exact trivial | rfl | refine Both.mk ?_ ?_ | (refine Imp.mk fun h => ?_; (try dsimp only at h); (try simp only [nc, Int.toNat_natCast, ne_eq, zz] at h); (try simp only [nc] at h)) | refine Ob.mk ?_ ?_ | refine Chk.mk (by kernel_rfl) ?_ | refine Eq'.mk ?_ | (refine AllN.mk fun i hi => ?_; cbv) | (refine AllC.mk fun c hc hcm => ?_; (try dsimp only at hc); cbv) | (refine AllS.mk fun r hr => ?_; (try simp only [Dat.ok, Dat.dec, Leaf.ok, Leaf.val, Ins.eta, Vm.eta, Emit.eta, Fence.eta, Gate.eta, Give.eta, PairAct.eta, Node.eta, Pair.eta, val_sl] at hr); cbv)
    · cbv
    · cbv
      repeat' first | (refine Stp.mk ?_; cbv) | (refine Gen.mk fun r hr => ?_; (try simp only [Dat.ok, Dat.dec, Leaf.ok, Leaf.val, Ins.eta, Vm.eta, Emit.eta, Fence.eta, Gate.eta, Give.eta, PairAct.eta, Node.eta, Pair.eta, val_sl, val_nil] at hr); cbv) | exact trivial | rfl | refine Both.mk ?_ ?_ | (refine Imp.mk fun h => ?_; (try dsimp only at h); (try simp only [nc, Int.toNat_natCast, ne_eq, zz] at h); (try simp only [nc] at h)) | refine Ob.mk ?_ ?_ | refine Chk.mk (by kernel_rfl) ?_ | refine Eq'.mk ?_ | (refine AllN.mk fun i hi => ?_; cbv) | (refine AllC.mk fun c hc hcm => ?_; (try dsimp only at hc); cbv) | (refine AllS.mk fun r hr => ?_; (try simp only [Dat.ok, Dat.dec, Leaf.ok, Leaf.val, Ins.eta, Vm.eta, Emit.eta, Fence.eta, Gate.eta, Give.eta, PairAct.eta, Node.eta, Pair.eta, val_sl] at hr); cbv)
      all_goals ((try dsimp only at *); (try simp only [nc, Int.toNat_natCast, ne_eq, zz] at *); (try simp only [nc] at *))
      all_goals first
        | omega
        | (unfold InR; omega)
        | (refine fin _ _ _ (decide_eq_true ?_).symm
           apply List.ext_getElem hlen
           intro i h1 h2
           have := hv i (by omega)
           simpa [h1, h2] using this)
        | (refine fin _ _ _ (decide_eq_false fun h => ?_).symm
           subst h
           simp_all; done)
        | skip
      all_goals (
        refine ⟨⟨k + 1, by omega, fun j hj => ?_⟩, ?_, trivial, rfl, by (try dsimp only); omega⟩
        · rcases Nat.lt_succ_iff_lt_or_eq.1 hj with hj | rfl
          · exact hv j hj
          · first | assumption | (generalize l.getD j Dat.d0 = a at *; generalize m.getD j Dat.d0 = b at *; cases a; cases b; simp_all; done)
        · cbv
          repeat' first | (refine Stp.mk ?_; cbv) | (refine Gen.mk fun r hr => ?_; (try simp only [Dat.ok, Dat.dec, Leaf.ok, Leaf.val, Ins.eta, Vm.eta, Emit.eta, Fence.eta, Gate.eta, Give.eta, PairAct.eta, Node.eta, Pair.eta, val_sl, val_nil] at hr); cbv) | exact trivial | rfl | refine Both.mk ?_ ?_ | (refine Imp.mk fun h => ?_; (try dsimp only at h); (try simp only [nc, Int.toNat_natCast, ne_eq, zz] at h); (try simp only [nc] at h)) | refine Ob.mk ?_ ?_ | refine Chk.mk (by kernel_rfl) ?_ | refine Eq'.mk ?_ | (refine AllN.mk fun i hi => ?_; cbv) | (refine AllC.mk fun c hc hcm => ?_; (try dsimp only at hc); cbv) | (refine AllS.mk fun r hr => ?_; (try simp only [Dat.ok, Dat.dec, Leaf.ok, Leaf.val, Ins.eta, Vm.eta, Emit.eta, Fence.eta, Gate.eta, Give.eta, PairAct.eta, Node.eta, Pair.eta, val_sl] at hr); cbv))
theorem eqErr_ok : PcOk Tryd.prog 23 (detPC eqErr_D) := det_okA fun A p r h hp0 => by
  unfold eqErr_D at h
  split at h
  · rename_i l m
    cases h
    obtain ⟨g0, g1, hp⟩ := hp0
    exact ⟨rfl, FnOk.pre (A' := [Leaf.av fun _ => (Leaf.val l : (List Int)), Leaf.av fun _ => (Leaf.val m : (List Int))]) (eqErr_vc (Leaf.val l) (Leaf.val m) hp) (.mk (Leaf.hle _ g0) (.mk (Leaf.hle _ g1) (trivial)))⟩
  · cases h
def echoC_R (r : Th ((List Ins))) : AV := .own 0 fun _ => (r ()).length
def echoC_H (r : Th ((List Ins))) : Hp := [vecO 76 fun _ => (r ())]
def echoC_S : (List Ins) := ([⟨9, 1, 0⟩, ⟨10, 1, 3⟩, ⟨6, 0, 0⟩] : List Ins)
def echoC_C : PC := fun A K => match A with
  | [] => Ob (fun _ => True) (Gen (α := (List Ins)) (fun _ => echoC_S ) fun r => K (echoC_R fun _ => r) (echoC_H fun _ => r))
  | _ => Bad 1002
set_option maxRecDepth 100000 in
set_option maxHeartbeats 4000000 in
theorem echoC_vc  : FnOk Tryd.prog 22 [] [] (outA (echoC_R fun _ => echoC_S ) (echoC_H fun _ => echoC_S )) := by
  refine fn_ok envOk zl noCon_ok noDraws_ok (keep := [0]) Tryd.func22 rfl ?_
  cbv
  repeat' first | (refine Stp.mk ?_; cbv) | (refine Gen.mk fun r hr => ?_; (try simp only [Dat.ok, Dat.dec, Leaf.ok, Leaf.val, Ins.eta, Vm.eta, Emit.eta, Fence.eta, Gate.eta, Give.eta, PairAct.eta, Node.eta, Pair.eta, val_sl, val_nil] at hr); cbv) | exact trivial | rfl | refine Both.mk ?_ ?_ | (refine Imp.mk fun h => ?_; (try dsimp only at h); (try simp only [nc, Int.toNat_natCast, ne_eq, zz] at h); (try simp only [nc] at h)) | refine Ob.mk ?_ ?_ | refine Chk.mk (by kernel_rfl) ?_ | refine Eq'.mk ?_ | (refine AllN.mk fun i hi => ?_; cbv) | (refine AllC.mk fun c hc hcm => ?_; (try dsimp only at hc); cbv) | (refine AllS.mk fun r hr => ?_; (try simp only [Dat.ok, Dat.dec, Leaf.ok, Leaf.val, Ins.eta, Vm.eta, Emit.eta, Fence.eta, Gate.eta, Give.eta, PairAct.eta, Node.eta, Pair.eta, val_sl] at hr); cbv)
  all_goals ((try dsimp only at *); (try simp only [nc, Int.toNat_natCast, ne_eq, zz] at *); (try simp only [nc] at *))
  all_goals first
    | rfl
    | (have hi3 : i < 3 := hi
       rcases i with _ | _ | _ | i
       all_goals first
         | omega
         | (cbv
            repeat' first | (refine Stp.mk ?_; cbv) | (refine Gen.mk fun r hr => ?_; (try simp only [Dat.ok, Dat.dec, Leaf.ok, Leaf.val, Ins.eta, Vm.eta, Emit.eta, Fence.eta, Gate.eta, Give.eta, PairAct.eta, Node.eta, Pair.eta, val_sl, val_nil] at hr); cbv) | exact trivial | rfl | refine Both.mk ?_ ?_ | (refine Imp.mk fun h => ?_; (try dsimp only at h); (try simp only [nc, Int.toNat_natCast, ne_eq, zz] at h); (try simp only [nc] at h)) | refine Ob.mk ?_ ?_ | refine Chk.mk (by kernel_rfl) ?_ | refine Eq'.mk ?_ | (refine AllN.mk fun i hi => ?_; cbv) | (refine AllC.mk fun c hc hcm => ?_; (try dsimp only at hc); cbv) | (refine AllS.mk fun r hr => ?_; (try simp only [Dat.ok, Dat.dec, Leaf.ok, Leaf.val, Ins.eta, Vm.eta, Emit.eta, Fence.eta, Gate.eta, Give.eta, PairAct.eta, Node.eta, Pair.eta, val_sl] at hr); cbv)
            all_goals rfl))
    | fail
theorem echoC_ok : PcOk Tryd.prog 22 (echoC_C) := fun A K h => by
  unfold echoC_C at h
  split at h
  · cases h with
    | mk h1 h2 =>
      refine FnOk.pre ?_ (A' := []) (trivial)
      exact FnOk.out (K := fun r H _ => K r H) (echoC_vc ) rfl h2.out
  · cases h
def echoF_R (r : Th ((List Ins))) : AV := Leaf.av fun _ => (r ())
def echoF_D : Det := fun A => match A with
  | [] => some (fun _ => True, echoF_R fun _ => echoC_S )
  | _ => none
theorem echoF_ok : PcOk Tryd.prog 22 (detPC echoF_D) := det_okF fun A p r h hp0 => by
  unfold echoF_D at h
  split at h
  · cases h
    exact FnOk.froz (FnOk.pre (A' := []) (echoC_vc ) (trivial)) rfl (q := _) (d := _) rfl (by intro p hp; repeat (first | (cases hp; done) | (rcases List.mem_cons.1 hp with rfl | hp; · exact Nat.le_refl _))) rfl ⟨rfl, rfl⟩
  · cases h
theorem echoF_okF : ∀ A p r, echoF_D A = some (p, r) → p () → FrOk Tryd.prog 22 A r := fun A p r h hp0 => by
  unfold echoF_D at h
  split at h
  · cases h
    exact FnOk.fresh (A := []) (FnOk.pre (A' := []) (echoC_vc ) (trivial)) rfl (q := _) (d := _) rfl (by intro p hp; repeat (first | (cases hp; done) | (rcases List.mem_cons.1 hp with rfl | hp; · exact Nat.le_refl _))) rfl rfl ⟨.mk fun _ _ => rfl, trivial⟩
  · cases h
def actsV : List PairAct := [⟨1, 0, -7⟩, ⟨2, 0, 1⟩, ⟨3, 0, 0⟩, ⟨4, 0, 0⟩, ⟨2, 1, 2⟩, ⟨3, 1, 0⟩, ⟨4, 1, 0⟩, ⟨3, 0, 0⟩]
theorem plive : (playA [⟨9, 1, 0⟩, ⟨10, 1, 3⟩, ⟨6, 0, 0⟩] 2 actsV).2 = ([0, 0, 0, 0, 0, 0, 0, 9], 0) ∧ (playA [⟨9, 1, 0⟩, ⟨10, 1, 3⟩, ⟨6, 0, 0⟩] 2 actsV).1.gate.out = [⟨#[51, 32, 45, 55]⟩] := by decide +kernel
noncomputable def cPv : FuncId → Con := fun f => match f with
  | 22 => frCon echoF_D
  | 8 => frzCon (detPC playC_D)
  | 18 => pureCon (detPC eqStr_D)
  | 23 => pureCon (detPC eqErr_D)
  | _ => fun _ _ _ => Bad 1001
theorem cPv_ok : ConOk Tryd.prog cPv := fun f A H K h => by
  unfold cPv at h
  split at h
  · exact ⟨⟨Tryd.f22, Tryd.func22, by kernel_rfl, by kernel_rfl⟩, frCon_ok echoF_okF h⟩
  · exact ⟨⟨Tryd.f8, Tryd.func8, by kernel_rfl, by kernel_rfl⟩, frzCon_ok playC_ok h⟩
  · exact ⟨⟨Tryd.f18, Tryd.func18, by kernel_rfl, by kernel_rfl⟩, pureCon_ok eqStr_ok h⟩
  · exact ⟨⟨Tryd.f23, Tryd.func23, by kernel_rfl, by kernel_rfl⟩, pureCon_ok eqErr_ok h⟩
  · cases h
def plives_R (r : Th (Bool)) : AV := .bc true
def plives_D : Det := fun A => match A with
  | [] => some (fun _ => True, plives_R fun _ => true )
  | _ => none
set_option maxRecDepth 100000 in
set_option maxHeartbeats 4000000 in
theorem plives_vc  : FnOk Tryd.prog 9 [] [] (outA (plives_R fun _ => true ) []) := by
  refine fn_ok envOk zl cPv_ok noDraws_ok (keep := [0, 1, 2, 3]) Tryd.func9 rfl ?_
  cbv
  repeat' first | (refine Stp.mk ?_; cbv) | (refine Gen.mk fun r hr => ?_; (try simp only [Dat.ok, Dat.dec, Leaf.ok, Leaf.val, Ins.eta, Vm.eta, Emit.eta, Fence.eta, Gate.eta, Give.eta, PairAct.eta, Node.eta, Pair.eta, val_sl, val_nil] at hr); cbv) | exact trivial | rfl | refine Both.mk ?_ ?_ | (refine Imp.mk fun h => ?_; (try dsimp only at h); (try simp only [nc, Int.toNat_natCast, ne_eq, zz] at h); (try simp only [nc] at h)) | refine Ob.mk ?_ ?_ | refine Chk.mk (by kernel_rfl) ?_ | refine Eq'.mk ?_ | (refine AllN.mk fun i hi => ?_; cbv) | (refine AllC.mk fun c hc hcm => ?_; (try dsimp only at hc); cbv) | (refine AllS.mk fun r hr => ?_; (try simp only [Dat.ok, Dat.dec, Leaf.ok, Leaf.val, Ins.eta, Vm.eta, Emit.eta, Fence.eta, Gate.eta, Give.eta, PairAct.eta, Node.eta, Pair.eta, val_sl] at hr); cbv)
  all_goals first
    | exact Nat.le_refl _
    | exact ⟨⟨rfl, fun i _ => Dat.hok _⟩, ⟨rfl, fun i (hi : i < 8) => by rcases i with _ | _ | _ | _ | _ | _ | _ | _ | i; all_goals first | exact ⟨trivial, trivial, trivial⟩ | omega⟩, show _ ≤ _ by decide, show _ ≤ _ by decide⟩
    | exact ⟨⟨rfl, fun i _ => Dat.hok _⟩, ⟨rfl, fun i (hi : i < 8) => by rcases i with _ | _ | _ | _ | _ | _ | _ | _ | i; all_goals first | trivial | omega⟩, show _ ≤ _ by decide +kernel⟩
    | exact ⟨⟨rfl, fun i _ => Dat.hok _⟩, ⟨rfl, fun i (hi : i < 1) => by rcases i with _ | i; all_goals first | trivial | omega⟩, show _ ≤ _ by decide +kernel⟩
    | decide +kernel
    | (exfalso; revert h; decide +kernel)
    | (exfalso; revert h; decide +kernel)
    | fail
theorem plives_ok : PcOk Tryd.prog 9 (detPC plives_D) := det_okA fun A p r h hp0 => by
  unfold plives_D at h
  split at h
  · cases h
    exact ⟨rfl, FnOk.pre (A' := []) (plives_vc ) (trivial)⟩
  · cases h
def toldV (code : List Ins) (log : List Int) : List ByteArray × Bool := ((runV code v0 log 5000).2.1.map textV, decide ((runV code v0 log 5000).2.2.2.2 = 0) && decide ((runV code v0 log 5000).2.2.2.1 < 5000))
def frontV (a b : List ByteArray) : Bool := decide (a.length ≤ b.length) && decide (a = b.take a.length)
theorem runV_okE {code : List Ins} {v : Vm} {log : List Int} {f : Int} : ∀ e ∈ (runV code v log f).2.1, okE e := by
  by_cases h : errV code v log f = 0
  · obtain ⟨h1, -⟩ := err_iff.1 h
    have O := out_run h1 f.toNat _ (inv0 h) (fun e he => absurd he List.not_mem_nil)
    rw [runV_of h]
    exact fun e he => okM_E (O e he)
  · rw [runV_z h]; exact fun e he => absurd he List.not_mem_nil
noncomputable def cTo : FuncId → Con := fun f => match f with
  | 17 => frCon newF_D
  | 16 => frCon runF_D
  | 24 => pureCon (detPC textC_D)
  | _ => fun _ _ _ => Bad 1001
theorem cTo_ok : ConOk Tryd.prog cTo := fun f A H K h => by
  unfold cTo at h
  split at h
  · exact ⟨⟨Tryd.f17, Tryd.func17, by kernel_rfl, by kernel_rfl⟩, frCon_ok newF_okF h⟩
  · exact ⟨⟨Tryd.f16, Tryd.func16, by kernel_rfl, by kernel_rfl⟩, frCon_ok runF_okF h⟩
  · exact ⟨⟨Tryd.f24, Tryd.func24, by kernel_rfl, by kernel_rfl⟩, pureCon_ok textC_ok h⟩
  · cases h
def toldC_R (r : Th ((List ByteArray) × Bool)) : AV := .tup [.own 0 fun _ => (r ()).1.length, .b fun _ => (r ()).2]
def toldC_H (r : Th ((List ByteArray) × Bool)) : Hp := [vecO 9 fun _ => (r ()).1]
def toldC_P (code : (List Ins)) (log : (List Int)) : Prop := code.length ≤ 9223372036854775807 ∧ log.length ≤ 9223372036854775807
def toldC_C : PC := fun A K => match A with
  | [code, log] => Ob (fun _ => Leaf.ok (List Ins) code ∧ Leaf.ok (List Int) log ∧ toldC_P (Leaf.val code) (Leaf.val log)) (Gen (α := (List ByteArray) × Bool) (fun _ => toldV (Leaf.val code) (Leaf.val log)) fun r => K (toldC_R fun _ => r) (toldC_H fun _ => r))
  | _ => Bad 1002
structure ToX (o : List Emit) where
  k : Nat
  hk : k ≤ o.length
set_option maxRecDepth 100000 in
set_option maxHeartbeats 4000000 in
theorem toldC_vc (code : (List Ins)) (log : (List Int)) (hp : toldC_P code log) : FnOk Tryd.prog 10 [Leaf.av fun _ => code, Leaf.av fun _ => log] [] (outA (toldC_R fun _ => toldV code log) (toldC_H fun _ => toldV code log)) := by
  refine fn_ok envOk zl cTo_ok noDraws_ok (keep := [0, 1, 4, 5, 7, 9, 10, 11, 13, 24, 25, 26, 27]) Tryd.func10 rfl ?_
  cbv
  repeat' first | (show Stp _; exfalso; first | omega | (exact h ‹_›) | (exact absurd ‹_› h) | (exact Bool.false_ne_true (h.symm.trans (show _ = true by assumption)))) | (refine Stp.mk ?_; cbv) | (refine Gen.mk fun r hr => ?_; (try simp only [Dat.ok, Dat.dec, Leaf.ok, Leaf.val, Ins.eta, Vm.eta, Emit.eta, Fence.eta, Gate.eta, Give.eta, PairAct.eta, Node.eta, Pair.eta, val_sl, val_nil] at hr); cbv) | exact trivial | rfl | refine Both.mk ?_ ?_ | (refine Imp.mk fun h => ?_; (try dsimp only at h); (try simp only [nc, Int.toNat_natCast, ne_eq, zz] at h); (try simp only [nc] at h)) | refine Ob.mk ?_ ?_ | refine Chk.mk (by kernel_rfl) ?_ | refine Eq'.mk ?_ | (refine AllN.mk fun i hi => ?_; cbv) | (refine AllC.mk fun c hc hcm => ?_; (try dsimp only at hc); cbv) | (refine AllS.mk fun r hr => ?_; (try simp only [Dat.ok, Dat.dec, Leaf.ok, Leaf.val, Ins.eta, Vm.eta, Emit.eta, Fence.eta, Gate.eta, Give.eta, PairAct.eta, Node.eta, Pair.eta, val_sl] at hr); cbv)
  all_goals ((try dsimp only at *); (try simp only [nc, Int.toNat_natCast, ne_eq, zz] at *); (try simp only [nc] at *))
  all_goals try simp only [Dat.dec, Leaf.val, Ins.eta, Vm.eta, Emit.eta, Fence.eta, Gate.eta, Give.eta, PairAct.eta, Node.eta, Pair.eta, val_sl] at *
  · exact ⟨⟨rfl, fun i _ => Dat.hok _⟩, ⟨trivial, ⟨rfl, fun i _ => Dat.hok _⟩, trivial, trivial⟩, ⟨rfl, fun i _ => Dat.hok _⟩, hp.1, show _ ≤ _ by decide, hp.2⟩
  have ho : ∀ e ∈ (runV code newC_S log 5000).2.1, okE e := runV_okE
  have hb := @runV_bd code newC_S log 5000
  have ol : (runV code newC_S log 5000).2.1.length ≤ 5000 := by omega
  have tk : ∀ k : Nat, k < (runV code newC_S log 5000).2.1.length → ((runV code newC_S log 5000).2.1.take (k + 1)).map textV = ((runV code newC_S log 5000).2.1.take k).map textV ++ [textV ((runV code newC_S log 5000).2.1.getD k Dat.d0)] := fun k h => by
    rw [List.take_add_one, List.getElem?_eq_getElem h, List.map_append, List.getD_eq_getElem?_getD, List.getElem?_eq_getElem h]; rfl
  have tl : ∀ k : Nat, k ≤ (runV code newC_S log 5000).2.1.length → (((runV code newC_S log 5000).2.1.take k).map textV).length = k := fun k h => by rw [List.length_map, List.length_take, Nat.min_eq_left h]
  refine LoopVC.frame [11, 13, 26, 27] (ToX (runV code newC_S log 5000).2.1) (fun x => [(26, .i .i64 fun _ => x.k), (11, .own 1 fun _ => (((runV code newC_S log 5000).2.1.take x.k).map textV).length)]) (fun x => [(1, vecO 9 fun _ => ((runV code newC_S log 5000).2.1.take x.k).map textV)]) [1] (fun x => (runV code newC_S log 5000).2.1.length - x.k) ⟨0, Nat.zero_le _⟩ rfl (fun _ => rfl) ?_ ?_ fun ⟨k, hk⟩ => ?_
  · cbv
    repeat' first | (refine Stp.mk ?_; cbv) | (refine Gen.mk fun r hr => ?_; (try simp only [Dat.ok, Dat.dec, Leaf.ok, Leaf.val, Ins.eta, Vm.eta, Emit.eta, Fence.eta, Gate.eta, Give.eta, PairAct.eta, Node.eta, Pair.eta, val_sl, val_nil] at hr); cbv) | exact trivial | rfl | refine Both.mk ?_ ?_ | (refine Imp.mk fun h => ?_; (try dsimp only at h); (try simp only [nc, Int.toNat_natCast, ne_eq, zz] at h); (try simp only [nc] at h)) | refine Ob.mk ?_ ?_ | refine Chk.mk (by kernel_rfl) ?_ | refine Eq'.mk ?_ | (refine AllN.mk fun i hi => ?_; cbv) | (refine AllC.mk fun c hc hcm => ?_; (try dsimp only at hc); cbv) | (refine AllS.mk fun r hr => ?_; (try simp only [Dat.ok, Dat.dec, Leaf.ok, Leaf.val, Ins.eta, Vm.eta, Emit.eta, Fence.eta, Gate.eta, Give.eta, PairAct.eta, Node.eta, Pair.eta, val_sl] at hr); cbv)
    all_goals fail
  · cbv
    repeat' first | (refine Stp.mk ?_; cbv) | (refine Gen.mk fun r hr => ?_; (try simp only [Dat.ok, Dat.dec, Leaf.ok, Leaf.val, Ins.eta, Vm.eta, Emit.eta, Fence.eta, Gate.eta, Give.eta, PairAct.eta, Node.eta, Pair.eta, val_sl, val_nil] at hr); cbv) | exact trivial | rfl | refine Both.mk ?_ ?_ | (refine Imp.mk fun h => ?_; (try dsimp only at h); (try simp only [nc, Int.toNat_natCast, ne_eq, zz] at h); (try simp only [nc] at h)) | refine Ob.mk ?_ ?_ | refine Chk.mk (by kernel_rfl) ?_ | refine Eq'.mk ?_ | (refine AllN.mk fun i hi => ?_; cbv) | (refine AllC.mk fun c hc hcm => ?_; (try dsimp only at hc); cbv) | (refine AllS.mk fun r hr => ?_; (try simp only [Dat.ok, Dat.dec, Leaf.ok, Leaf.val, Ins.eta, Vm.eta, Emit.eta, Fence.eta, Gate.eta, Give.eta, PairAct.eta, Node.eta, Pair.eta, val_sl] at hr); cbv)
    all_goals fail
  have hk9 : k ≤ (runV code newC_S log 5000).2.1.length := hk
  have tlk := tl k hk9
  have tkk := tk k
  have hok : k < (runV code newC_S log 5000).2.1.length → okE ((runV code newC_S log 5000).2.1.getD k Dat.d0) := fun h => ho _ (by rw [List.getD_eq_getElem?_getD, List.getElem?_eq_getElem h]; exact List.getElem_mem _)
  cbv
  repeat' first | (show Stp _; exfalso; first | omega | (exact h ‹_›) | (exact absurd ‹_› h) | (exact Bool.false_ne_true (h.symm.trans (show _ = true by assumption)))) | (refine Stp.mk ?_; cbv) | (refine Gen.mk fun r hr => ?_; (try simp only [Dat.ok, Dat.dec, Leaf.ok, Leaf.val, Ins.eta, Vm.eta, Emit.eta, Fence.eta, Gate.eta, Give.eta, PairAct.eta, Node.eta, Pair.eta, val_sl, val_nil] at hr); cbv) | exact trivial | rfl | refine Both.mk ?_ ?_ | (refine Imp.mk fun h => ?_; (try dsimp only at h); (try simp only [nc, Int.toNat_natCast, ne_eq, zz] at h); (try simp only [nc] at h)) | refine Ob.mk ?_ ?_ | refine Chk.mk (by kernel_rfl) ?_ | refine Eq'.mk ?_ | (refine AllN.mk fun i hi => ?_; cbv) | (refine AllC.mk fun c hc hcm => ?_; (try dsimp only at hc); cbv) | (refine AllS.mk fun r hr => ?_; (try simp only [Dat.ok, Dat.dec, Leaf.ok, Leaf.val, Ins.eta, Vm.eta, Emit.eta, Fence.eta, Gate.eta, Give.eta, PairAct.eta, Node.eta, Pair.eta, val_sl] at hr); cbv)
  all_goals ((try dsimp only at *); (try simp only [nc, Int.toNat_natCast, ne_eq, zz] at *); (try simp only [nc] at *))
  all_goals try rw [nc] at *
  all_goals try simp only [Dat.dec, Leaf.val, Ins.eta, Vm.eta, Emit.eta, Fence.eta, Gate.eta, Give.eta, PairAct.eta, Node.eta, Pair.eta, val_sl] at *
  all_goals first
    | exact ⟨by omega, by omega⟩
    | (unfold InR; omega)
    | exact ⟨Dat.hok fun _ => (runV code newC_S log 5000).2.1.getD k Dat.d0, hok (by omega)⟩
    | exact ⟨Nat.le_refl _, Nat.le_refl _, by omega, by omega, Nat.le_refl _⟩
    | (have h9 : k < (runV code newC_S log 5000).2.1.length := by omega
       refine ⟨⟨k + 1, by omega⟩, ?_, ?_, rfl, by (try dsimp only); omega⟩
       · cbv
         repeat' first | (refine Stp.mk ?_; cbv) | (refine Gen.mk fun r hr => ?_; (try simp only [Dat.ok, Dat.dec, Leaf.ok, Leaf.val, Ins.eta, Vm.eta, Emit.eta, Fence.eta, Gate.eta, Give.eta, PairAct.eta, Node.eta, Pair.eta, val_sl, val_nil] at hr); cbv) | exact trivial | rfl | refine Both.mk ?_ ?_ | (refine Imp.mk fun h => ?_; (try dsimp only at h); (try simp only [nc, Int.toNat_natCast, ne_eq, zz] at h); (try simp only [nc] at h)) | refine Ob.mk ?_ ?_ | refine Chk.mk (by kernel_rfl) ?_ | refine Eq'.mk ?_ | (refine AllN.mk fun i hi => ?_; cbv) | (refine AllC.mk fun c hc hcm => ?_; (try dsimp only at hc); cbv) | (refine AllS.mk fun r hr => ?_; (try simp only [Dat.ok, Dat.dec, Leaf.ok, Leaf.val, Ins.eta, Vm.eta, Emit.eta, Fence.eta, Gate.eta, Give.eta, PairAct.eta, Node.eta, Pair.eta, val_sl] at hr); cbv)
         all_goals first
           | (dsimp only; rw [tkk h9, List.length_append]; rfl)
           | fail
       · cbv
         repeat' first | (refine Stp.mk ?_; cbv) | (refine Gen.mk fun r hr => ?_; (try simp only [Dat.ok, Dat.dec, Leaf.ok, Leaf.val, Ins.eta, Vm.eta, Emit.eta, Fence.eta, Gate.eta, Give.eta, PairAct.eta, Node.eta, Pair.eta, val_sl, val_nil] at hr); cbv) | exact trivial | rfl | refine Both.mk ?_ ?_ | (refine Imp.mk fun h => ?_; (try dsimp only at h); (try simp only [nc, Int.toNat_natCast, ne_eq, zz] at h); (try simp only [nc] at h)) | refine Ob.mk ?_ ?_ | refine Chk.mk (by kernel_rfl) ?_ | refine Eq'.mk ?_ | (refine AllN.mk fun i hi => ?_; cbv) | (refine AllC.mk fun c hc hcm => ?_; (try dsimp only at hc); cbv) | (refine AllS.mk fun r hr => ?_; (try simp only [Dat.ok, Dat.dec, Leaf.ok, Leaf.val, Ins.eta, Vm.eta, Emit.eta, Fence.eta, Gate.eta, Give.eta, PairAct.eta, Node.eta, Pair.eta, val_sl] at hr); cbv)
         all_goals dsimp only
         all_goals first
           | (rw [tkk h9, List.length_append]; rfl)
           | (rw [tkk h9, gd_snoc _ _ _ _ hi]; done)
           | fail)
    | (have ek : (runV code newC_S log 5000).2.1.take k = (runV code newC_S log 5000).2.1 := List.take_of_length_le (by omega)
       rw [ek]
       rfl)
    | (have q : (runV code newC_S log 5000).2.2.2.2 = 0 := by assumption
       show decide ((runV code newC_S log 5000).2.2.2.1 < 5000) = (decide ((runV code newC_S log 5000).2.2.2.2 = 0) && decide ((runV code newC_S log 5000).2.2.2.1 < 5000))
       rw [decide_eq_true q, Bool.true_and])
    | (have q : ¬ (runV code newC_S log 5000).2.2.2.2 = 0 := by assumption
       show false = (decide ((runV code newC_S log 5000).2.2.2.2 = 0) && decide ((runV code newC_S log 5000).2.2.2.1 < 5000))
       rw [decide_eq_false q, Bool.false_and])
    | fail
theorem toldC_ok : PcOk Tryd.prog 10 (toldC_C) := fun A K h => by
  unfold toldC_C at h
  split at h
  · rename_i code log
    cases h with
    | mk h1 h2 =>
      obtain ⟨g0, g1, hp⟩ := h1
      refine FnOk.pre ?_ (A' := [Leaf.av fun _ => (Leaf.val code : (List Ins)), Leaf.av fun _ => (Leaf.val log : (List Int))]) (.mk (Leaf.hle _ g0) (.mk (Leaf.hle _ g1) (trivial)))
      exact FnOk.out (K := fun r H _ => K r H) (toldC_vc (Leaf.val code) (Leaf.val log) hp) rfl h2.out
  · cases h
def toldF_R (r : Th ((List ByteArray) × Bool)) : AV := .tup [Leaf.av fun _ => (r ()).1, .b fun _ => (r ()).2]
def toldF_D : Det := fun A => match A with
  | [code, log] => some (fun _ => Leaf.ok (List Ins) code ∧ Leaf.ok (List Int) log ∧ toldC_P (Leaf.val code) (Leaf.val log), toldF_R fun _ => toldV (Leaf.val code) (Leaf.val log))
  | _ => none
theorem toldF_ok : PcOk Tryd.prog 10 (detPC toldF_D) := det_okF fun A p r h hp0 => by
  unfold toldF_D at h
  split at h
  · rename_i code log
    cases h
    obtain ⟨g0, g1, hp⟩ := hp0
    exact FnOk.froz (FnOk.pre (A' := [Leaf.av fun _ => (Leaf.val code : (List Ins)), Leaf.av fun _ => (Leaf.val log : (List Int))]) (toldC_vc (Leaf.val code) (Leaf.val log) hp) (.mk (Leaf.hle _ g0) (.mk (Leaf.hle _ g1) (trivial)))) rfl (q := _) (d := _) rfl (by intro p hp; repeat (first | (cases hp; done) | (rcases List.mem_cons.1 hp with rfl | hp; · exact Nat.le_refl _))) rfl ⟨rfl, rfl⟩
  · cases h
theorem toldF_okF : ∀ A p r, toldF_D A = some (p, r) → p () → FrOk Tryd.prog 10 A r := fun A p r h hp0 => by
  unfold toldF_D at h
  split at h
  · rename_i code log
    cases h
    obtain ⟨g0, g1, hp⟩ := hp0
    exact FnOk.fresh (A := [code, log]) (FnOk.pre (A' := [Leaf.av fun _ => (Leaf.val code : (List Ins)), Leaf.av fun _ => (Leaf.val log : (List Int))]) (toldC_vc (Leaf.val code) (Leaf.val log) hp) (.mk (Leaf.hle _ g0) (.mk (Leaf.hle _ g1) (trivial)))) rfl (q := _) (d := _) rfl (by intro p hp; repeat (first | (cases hp; done) | (rcases List.mem_cons.1 hp with rfl | hp; · exact Nat.le_refl _))) rfl rfl ⟨.mk fun _ _ => rfl, trivial⟩
  · cases h
noncomputable def cFr : FuncId → Con := fun f => match f with
  | 18 => pureCon (detPC eqStr_D)
  | _ => fun _ _ _ => Bad 1001
theorem cFr_ok : ConOk Tryd.prog cFr := fun f A H K h => by
  unfold cFr at h
  split at h
  · exact ⟨⟨Tryd.f18, Tryd.func18, by kernel_rfl, by kernel_rfl⟩, pureCon_ok eqStr_ok h⟩
  · cases h
def frontC_R (r : Th (Bool)) : AV := .b fun _ => (r ())
def frontC_P (a : (List ByteArray)) (b : (List ByteArray)) : Prop := a.length ≤ 9223372036854775807 ∧ b.length ≤ 9223372036854775807
def frontC_D : Det := fun A => match A with
  | [a, b] => some (fun _ => Leaf.ok (List ByteArray) a ∧ Leaf.ok (List ByteArray) b ∧ frontC_P (Leaf.val a) (Leaf.val b), frontC_R fun _ => frontV (Leaf.val a) (Leaf.val b))
  | _ => none
theorem val_tk {b : List ByteArray} {n : Nat} (h : n ≤ b.length) : (slV (.sl 1 (fun _ => ((n : Int) - 0).toNat) fun k => Dat.enc fun _ => b.getD (k () + Int.toNat 0) Dat.d0) : List ByteArray) = b.take n := by
  refine lst_eq (d := Dat.d0) (by show ((n : Int) - 0).toNat = (b.take n).length; rw [List.length_take, Nat.min_eq_left h]; omega) fun i hi => ?_
  show b.getD (i + 0) Dat.d0 = _
  have hi3 : i < ((n : Int) - 0).toNat := hi
  have hi2 : i < n := by omega
  rw [Nat.add_zero, List.getD_eq_getElem?_getD, List.getD_eq_getElem?_getD, List.getElem?_take, if_pos hi2]
set_option maxRecDepth 100000 in
set_option maxHeartbeats 4000000 in
theorem frontC_vc (a : (List ByteArray)) (b : (List ByteArray)) (hp : frontC_P a b) : FnOk Tryd.prog 11 [Leaf.av fun _ => a, Leaf.av fun _ => b] [] (outA (frontC_R fun _ => frontV a b) []) := by
  refine fn_ok envOk zl cFr_ok noDraws_ok (keep := [0, 1, 4]) Tryd.func11 rfl ?_
  cbv
  repeat' first | (show Stp _; exfalso; first | omega | (exact h ‹_›) | (exact absurd ‹_› h) | (exact Bool.false_ne_true (h.symm.trans (show _ = true by assumption)))) | (refine Stp.mk ?_; cbv) | (refine Gen.mk fun r hr => ?_; (try simp only [Dat.ok, Dat.dec, Leaf.ok, Leaf.val, Ins.eta, Vm.eta, Emit.eta, Fence.eta, Gate.eta, Give.eta, PairAct.eta, Node.eta, Pair.eta, val_sl, val_nil] at hr); cbv) | exact trivial | rfl | refine Both.mk ?_ ?_ | (refine Imp.mk fun h => ?_; (try dsimp only at h); (try simp only [nc, Int.toNat_natCast, ne_eq, zz] at h); (try simp only [nc] at h)) | refine Ob.mk ?_ ?_ | refine Chk.mk (by kernel_rfl) ?_ | refine Eq'.mk ?_ | (refine AllN.mk fun i hi => ?_; cbv) | (refine AllC.mk fun c hc hcm => ?_; (try dsimp only at hc); cbv) | (refine AllS.mk fun r hr => ?_; (try simp only [Dat.ok, Dat.dec, Leaf.ok, Leaf.val, Ins.eta, Vm.eta, Emit.eta, Fence.eta, Gate.eta, Give.eta, PairAct.eta, Node.eta, Pair.eta, val_sl] at hr); cbv)
  all_goals ((try dsimp only at *); (try simp only [nc, Int.toNat_natCast, ne_eq, zz] at *); (try simp only [nc] at *))
  all_goals try simp only [Dat.dec, Leaf.val, Ins.eta, Vm.eta, Emit.eta, Fence.eta, Gate.eta, Give.eta, PairAct.eta, Node.eta, Pair.eta, val_sl] at *
  all_goals have hp1 := hp.1
  all_goals try (have eV := val_tk (b := b) (n := a.length) (by omega); simp only [eV] at *)
  all_goals first
    | exact ⟨by omega, by omega, by omega⟩
    | exact ⟨⟨rfl, fun i _ => Dat.hok _⟩, ⟨rfl, fun i _ => Dat.hok _⟩, hp1⟩
    | (show decide (a = b.take a.length) = (decide (a.length ≤ b.length) && decide (a = b.take a.length))
       rw [decide_eq_true (show a.length ≤ b.length by omega), Bool.true_and])
    | (show false = (decide (a.length ≤ b.length) && decide (a = b.take a.length))
       rw [decide_eq_false (show ¬ a.length ≤ b.length by omega), Bool.false_and])
    | fail
theorem frontC_ok : PcOk Tryd.prog 11 (detPC frontC_D) := det_okA fun A p r h hp0 => by
  unfold frontC_D at h
  split at h
  · rename_i a b
    cases h
    obtain ⟨g0, g1, hp⟩ := hp0
    exact ⟨rfl, FnOk.pre (A' := [Leaf.av fun _ => (Leaf.val a : (List ByteArray)), Leaf.av fun _ => (Leaf.val b : (List ByteArray))]) (frontC_vc (Leaf.val a) (Leaf.val b) hp) (.mk (Leaf.hle _ g0) (.mk (Leaf.hle _ g1) (trivial)))⟩
  · cases h

end Go.Proofs.YtddkjgdfjkklcaaDoor
