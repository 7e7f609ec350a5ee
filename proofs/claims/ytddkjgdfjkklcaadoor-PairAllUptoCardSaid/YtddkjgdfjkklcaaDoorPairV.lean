/- pair: a fresh node, a node's copy: walked. -/
import Derived.Test.YtddkjgdfjkklcaaDoorText
import Derived.Test.YtddkjgdfjkklcaaDoorAbsG4
set_option linter.all false
namespace Go.Proofs.YtddkjgdfjkklcaaDoor
open Go Go.Abs

def newC_R (r : Th (Vm)) : AV := .agg [.i .i64 fun _ => (r ()).at_, .own 0 fun _ => (r ()).regs.length, .b fun _ => (r ()).halts, .b fun _ => (r ()).fault]
def newC_H (r : Th (Vm)) : Hp := [vecO 3 fun _ => (r ()).regs]
def newC_S : Vm := (⟨0, List.replicate 8 0, false, false⟩ : Vm)
def newC_C : PC := fun A K => match A with
  | [] => Ob (fun _ => True) (Gen (α := Vm) (fun _ => newC_S ) fun r => K (newC_R fun _ => r) (newC_H fun _ => r))
  | _ => Bad 1002
set_option maxRecDepth 100000 in
set_option maxHeartbeats 4000000 in
theorem newC_vc  : FnOk Tryd.prog 17 [] [] (outA (newC_R fun _ => newC_S ) (newC_H fun _ => newC_S )) := by
  refine fn_ok envOk zl noCon_ok noDraws_ok (keep := [0]) Tryd.func17 rfl ?_
  cbv
  repeat' first | (refine Stp.mk ?_; cbv) | (refine Gen.mk fun r hr => ?_; (try simp only [Dat.ok, Dat.dec, Leaf.ok, Leaf.val, Ins.eta, Vm.eta, Emit.eta, Fence.eta, Gate.eta, Give.eta, PairAct.eta, Node.eta, Pair.eta, val_sl, val_nil] at hr); cbv) | exact trivial | rfl | refine Both.mk ?_ ?_ | (refine Imp.mk fun h => ?_; (try dsimp only at h); (try simp only [nc, Int.toNat_natCast, ne_eq, zz] at h); (try simp only [nc] at h)) | refine Ob.mk ?_ ?_ | refine Chk.mk (by kernel_rfl) ?_ | refine Eq'.mk ?_ | (refine AllN.mk fun i hi => ?_; cbv) | (refine AllC.mk fun c hc hcm => ?_; (try dsimp only at hc); cbv) | (refine AllS.mk fun r hr => ?_; (try simp only [Dat.ok, Dat.dec, Leaf.ok, Leaf.val, Ins.eta, Vm.eta, Emit.eta, Fence.eta, Gate.eta, Give.eta, PairAct.eta, Node.eta, Pair.eta, val_sl] at hr); cbv)
  all_goals ((try dsimp only at *); (try simp only [nc, Int.toNat_natCast, ne_eq, zz] at *); (try simp only [nc] at *))
  all_goals first
    | omega
    | (have : i < 8 := hi
       show (0 : Int) = (List.replicate 8 (0 : Int)).getD i 0
       rw [List.getD_eq_getElem?_getD, List.getElem?_replicate]
       split <;> rfl)
    | fail
theorem newC_ok : PcOk Tryd.prog 17 (newC_C) := fun A K h => by
  unfold newC_C at h
  split at h
  · cases h with
    | mk h1 h2 =>
      refine FnOk.pre ?_ (A' := []) (trivial)
      exact FnOk.out (K := fun r H _ => K r H) (newC_vc ) rfl h2.out
  · cases h
def newF_R (r : Th (Vm)) : AV := .agg [.i .i64 fun _ => (r ()).at_, Leaf.av fun _ => (r ()).regs, .b fun _ => (r ()).halts, .b fun _ => (r ()).fault]
def newF_D : Det := fun A => match A with
  | [] => some (fun _ => True, newF_R fun _ => newC_S )
  | _ => none
theorem newF_ok : PcOk Tryd.prog 17 (detPC newF_D) := det_okF fun A p r h hp0 => by
  unfold newF_D at h
  split at h
  · cases h
    exact FnOk.froz (FnOk.pre (A' := []) (newC_vc ) (trivial)) rfl (q := _) (d := _) rfl (by intro p hp; repeat (first | (cases hp; done) | (rcases List.mem_cons.1 hp with rfl | hp; · exact Nat.le_refl _))) rfl ⟨rfl, rfl⟩
  · cases h
theorem newF_okF : ∀ A p r, newF_D A = some (p, r) → p () → FrOk Tryd.prog 17 A r := fun A p r h hp0 => by
  unfold newF_D at h
  split at h
  · cases h
    exact FnOk.fresh (A := []) (FnOk.pre (A' := []) (newC_vc ) (trivial)) rfl (q := _) (d := _) rfl (by intro p hp; repeat (first | (cases hp; done) | (rcases List.mem_cons.1 hp with rfl | hp; · exact Nat.le_refl _))) rfl rfl ⟨.mk fun _ _ => rfl, trivial⟩
  · cases h
noncomputable def cFs : FuncId → Con := fun f => match f with
  | 17 => pureCon newC_C
  | _ => fun _ _ _ => Bad 1001
theorem cFs_ok : ConOk Tryd.prog cFs := fun f A H K h => by
  unfold cFs at h
  split at h
  · exact ⟨⟨Tryd.f17, Tryd.func17, by kernel_rfl, by kernel_rfl⟩, pureCon_ok newC_ok h⟩
  · cases h
def freshC_R (r : Th (Node)) : AV := .agg [.i .i64 fun _ => (r ()).epoch, .i .i64 fun _ => (r ()).vm.at_, .own 0 fun _ => (r ()).vm.regs.length, .b fun _ => (r ()).vm.halts, .b fun _ => (r ()).vm.fault, .i .i64 fun _ => (r ()).read, .own 1 fun _ => (r ()).outs.length, .i .i64 fun _ => (r ()).sent]
def freshC_H (r : Th (Node)) : Hp := [vecO 3 fun _ => (r ()).vm.regs, vecO 52 fun _ => (r ()).outs]
def freshC_C : PC := fun A K => match A with
  | [] => Ob (fun _ => True) (Gen (α := Node) (fun _ => nd0 ) fun r => K (freshC_R fun _ => r) (freshC_H fun _ => r))
  | _ => Bad 1002
set_option maxRecDepth 100000 in
set_option maxHeartbeats 4000000 in
theorem freshC_vc  : FnOk Tryd.prog 20 [] [] (outA (freshC_R fun _ => nd0 ) (freshC_H fun _ => nd0 )) := by
  refine fn_ok envOk zl cFs_ok noDraws_ok (keep := [0]) Tryd.func20 rfl ?_
  cbv
  repeat' first | (refine Stp.mk ?_; cbv) | (refine Gen.mk fun r hr => ?_; (try simp only [Dat.ok, Dat.dec, Leaf.ok, Leaf.val, Ins.eta, Vm.eta, Emit.eta, Fence.eta, Gate.eta, Give.eta, PairAct.eta, Node.eta, Pair.eta, val_sl, val_nil] at hr); cbv) | exact trivial | rfl | refine Both.mk ?_ ?_ | (refine Imp.mk fun h => ?_; (try dsimp only at h); (try simp only [nc, Int.toNat_natCast, ne_eq, zz] at h); (try simp only [nc] at h)) | refine Ob.mk ?_ ?_ | refine Chk.mk (by kernel_rfl) ?_ | refine Eq'.mk ?_ | (refine AllN.mk fun i hi => ?_; cbv) | (refine AllC.mk fun c hc hcm => ?_; (try dsimp only at hc); cbv) | (refine AllS.mk fun r hr => ?_; (try simp only [Dat.ok, Dat.dec, Leaf.ok, Leaf.val, Ins.eta, Vm.eta, Emit.eta, Fence.eta, Gate.eta, Give.eta, PairAct.eta, Node.eta, Pair.eta, val_sl] at hr); cbv)
  all_goals ((try dsimp only at *); (try simp only [nc, Int.toNat_natCast, ne_eq, zz] at *); (try simp only [nc] at *))
  all_goals try subst_vars
  all_goals first
    | rfl
    | exact absurd hi (Nat.not_lt_zero _)
    | fail
theorem freshC_ok : PcOk Tryd.prog 20 (freshC_C) := fun A K h => by
  unfold freshC_C at h
  split at h
  · cases h with
    | mk h1 h2 =>
      refine FnOk.pre ?_ (A' := []) (trivial)
      exact FnOk.out (K := fun r H _ => K r H) (freshC_vc ) rfl h2.out
  · cases h
def freshF_R (r : Th (Node)) : AV := .agg [.i .i64 fun _ => (r ()).epoch, .i .i64 fun _ => (r ()).vm.at_, Leaf.av fun _ => (r ()).vm.regs, .b fun _ => (r ()).vm.halts, .b fun _ => (r ()).vm.fault, .i .i64 fun _ => (r ()).read, Leaf.av fun _ => (r ()).outs, .i .i64 fun _ => (r ()).sent]
def freshF_D : Det := fun A => match A with
  | [] => some (fun _ => True, freshF_R fun _ => nd0 )
  | _ => none
theorem freshF_ok : PcOk Tryd.prog 20 (detPC freshF_D) := det_okF fun A p r h hp0 => by
  unfold freshF_D at h
  split at h
  · cases h
    exact FnOk.froz (FnOk.pre (A' := []) (freshC_vc ) (trivial)) rfl (q := _) (d := _) rfl (by intro p hp; repeat (first | (cases hp; done) | (rcases List.mem_cons.1 hp with rfl | hp; · exact Nat.le_refl _))) rfl ⟨rfl, rfl⟩
  · cases h
theorem freshF_okF : ∀ A p r, freshF_D A = some (p, r) → p () → FrOk Tryd.prog 20 A r := fun A p r h hp0 => by
  unfold freshF_D at h
  split at h
  · cases h
    exact FnOk.fresh (A := []) (FnOk.pre (A' := []) (freshC_vc ) (trivial)) rfl (q := _) (d := _) rfl (by intro p hp; repeat (first | (cases hp; done) | (rcases List.mem_cons.1 hp with rfl | hp; · exact Nat.le_refl _))) rfl rfl ⟨.mk fun _ _ => rfl, .mk fun _ _ => rfl, trivial⟩
  · cases h
def clEm_R (r : Th ((List Emit))) : AV := .own 0 fun _ => (r ()).length
def clEm_H (r : Th ((List Emit))) : Hp := [vecO 52 fun _ => (r ())]
def clEm_P (l : (List Emit)) : Prop := l.length ≤ 1099511627776
def clEm_C : PC := fun A K => match A with
  | [l] => Ob (fun _ => Leaf.ok (List Emit) l ∧ clEm_P (Leaf.val l)) (Gen (α := (List Emit)) (fun _ => (Leaf.val l)) fun r => K (clEm_R fun _ => r) (clEm_H fun _ => r))
  | _ => Bad 1002
set_option maxRecDepth 100000 in
set_option maxHeartbeats 4000000 in
theorem clEm_vc (l : (List Emit)) (hp : clEm_P l) : FnOk Tryd.prog 48 [Leaf.av fun _ => l] [] (outA (clEm_R fun _ => l) (clEm_H fun _ => l)) := by
  refine fn_ok envOk zl noCon_ok noDraws_ok (keep := [0, 2, 4]) Tryd.func48 rfl ?_
  have hp' : l.length ≤ 1099511627776 := hp
  cbv
  repeat' first | (refine Stp.mk ?_; cbv) | (refine Gen.mk fun r hr => ?_; (try simp only [Dat.ok, Dat.dec, Leaf.ok, Leaf.val, Ins.eta, Vm.eta, Emit.eta, Fence.eta, Gate.eta, Give.eta, PairAct.eta, Node.eta, Pair.eta, val_sl, val_nil] at hr); cbv) | exact trivial | rfl | refine Both.mk ?_ ?_ | (refine Imp.mk fun h => ?_; (try dsimp only at h); (try simp only [nc, Int.toNat_natCast, ne_eq, zz] at h); (try simp only [nc] at h)) | refine Ob.mk ?_ ?_ | refine Chk.mk (by kernel_rfl) ?_ | refine Eq'.mk ?_ | (refine AllN.mk fun i hi => ?_; cbv) | (refine AllC.mk fun c hc hcm => ?_; (try dsimp only at hc); cbv) | (refine AllS.mk fun r hr => ?_; (try simp only [Dat.ok, Dat.dec, Leaf.ok, Leaf.val, Ins.eta, Vm.eta, Emit.eta, Fence.eta, Gate.eta, Give.eta, PairAct.eta, Node.eta, Pair.eta, val_sl] at hr); cbv)
  all_goals ((try dsimp only at *); (try simp only [nc, Int.toNat_natCast, ne_eq, zz] at *); (try simp only [nc] at *))
  all_goals first
    | omega
    | (exact ⟨Nat.le_refl _, trivial, by omega, by omega⟩)
    | (simp only [Nat.zero_add, Nat.sub_zero, Nat.not_lt_zero, decide_false, cond_false]; done)
    | (simp_all; done)
    | fail
theorem clEm_ok : PcOk Tryd.prog 48 (clEm_C) := fun A K h => by
  unfold clEm_C at h
  split at h
  · rename_i l
    cases h with
    | mk h1 h2 =>
      obtain ⟨g0, hp⟩ := h1
      refine FnOk.pre ?_ (A' := [Leaf.av fun _ => (Leaf.val l : (List Emit))]) (.mk (Leaf.hle _ g0) (trivial))
      exact FnOk.out (K := fun r H _ => K r H) (clEm_vc (Leaf.val l) hp) rfl h2.out
  · cases h
def clEmN_N : DetN := fun A => match A with
  | [l] => some (fun _ => Leaf.ok (List Emit) l ∧ clEm_P (Leaf.val l), clEm_R fun _ => (Leaf.val l), vecO 52 fun _ => ((Leaf.val l) : (List Emit)))
  | _ => none
theorem clEmN_okN : PcOk Tryd.prog 48 (detNPC clEmN_N) := det_okN fun A p r o h hp0 => by
  unfold clEmN_N at h
  split at h
  · rename_i l
    cases h
    obtain ⟨g0, hp⟩ := hp0
    exact FnOk.pre (A' := [Leaf.av fun _ => (Leaf.val l : (List Emit))]) (FnOk.out (clEm_vc (Leaf.val l) hp) rfl ⟨rfl, rfl⟩) (.mk (Leaf.hle _ g0) (trivial))
  · cases h
def clIntN_N : DetN := fun A => match A with
  | [l] => some (fun _ => Leaf.ok (List Int) l ∧ clInt_P (Leaf.val l), clInt_R fun _ => (Leaf.val l), vecO 3 fun _ => ((Leaf.val l) : (List Int)))
  | _ => none
theorem clIntN_okN : PcOk Tryd.prog 30 (detNPC clIntN_N) := det_okN fun A p r o h hp0 => by
  unfold clIntN_N at h
  split at h
  · rename_i l
    cases h
    obtain ⟨g0, hp⟩ := hp0
    exact FnOk.pre (A' := [Leaf.av fun _ => (Leaf.val l : (List Int))]) (FnOk.out (clInt_vc (Leaf.val l) hp) rfl ⟨rfl, rfl⟩) (.mk (Leaf.hle _ g0) (trivial))
  · cases h
def clIntF_R (r : Th ((List Int))) : AV := Leaf.av fun _ => (r ())
def clIntF_D : Det := fun A => match A with
  | [l] => some (fun _ => Leaf.ok (List Int) l ∧ clInt_P (Leaf.val l), clIntF_R fun _ => (Leaf.val l))
  | _ => none
theorem clIntF_ok : PcOk Tryd.prog 30 (detPC clIntF_D) := det_okF fun A p r h hp0 => by
  unfold clIntF_D at h
  split at h
  · rename_i l
    cases h
    obtain ⟨g0, hp⟩ := hp0
    exact FnOk.froz (FnOk.pre (A' := [Leaf.av fun _ => (Leaf.val l : (List Int))]) (clInt_vc (Leaf.val l) hp) (.mk (Leaf.hle _ g0) (trivial))) rfl (q := _) (d := _) rfl (by intro p hp; repeat (first | (cases hp; done) | (rcases List.mem_cons.1 hp with rfl | hp; · exact Nat.le_refl _))) rfl ⟨rfl, rfl⟩
  · cases h
theorem clIntF_okF : ∀ A p r, clIntF_D A = some (p, r) → p () → FrOk Tryd.prog 30 A r := fun A p r h hp0 => by
  unfold clIntF_D at h
  split at h
  · rename_i l
    cases h
    obtain ⟨g0, hp⟩ := hp0
    exact FnOk.fresh (A := [l]) (FnOk.pre (A' := [Leaf.av fun _ => (Leaf.val l : (List Int))]) (clInt_vc (Leaf.val l) hp) (.mk (Leaf.hle _ g0) (trivial))) rfl (q := _) (d := _) rfl (by intro p hp; repeat (first | (cases hp; done) | (rcases List.mem_cons.1 hp with rfl | hp; · exact Nat.le_refl _))) rfl rfl ⟨.mk fun _ _ => rfl, trivial⟩
  · cases h
def dSt : FuncId → Option Dt := fun f => match f with
  | 30 => some (.n clIntN_N)
  | 48 => some (.n clEmN_N)
  | _ => none
theorem dSt_ok : DetOk Tryd.prog dSt := fun f d h => by
  unfold dSt at h
  split at h
  · cases h; exact ⟨⟨Tryd.f30, Tryd.func30, by kernel_rfl, by kernel_rfl⟩, clIntN_okN⟩
  · cases h; exact ⟨⟨Tryd.f48, Tryd.func48, by kernel_rfl, by kernel_rfl⟩, clEmN_okN⟩
  · cases h
def stillC_R (r : Th (Node)) : AV := .agg [.i .i64 fun _ => (r ()).epoch, .i .i64 fun _ => (r ()).vm.at_, .own 0 fun _ => (r ()).vm.regs.length, .b fun _ => (r ()).vm.halts, .b fun _ => (r ()).vm.fault, .i .i64 fun _ => (r ()).read, .own 1 fun _ => (r ()).outs.length, .i .i64 fun _ => (r ()).sent]
def stillC_H (r : Th (Node)) : Hp := [vecO 3 fun _ => (r ()).vm.regs, vecO 52 fun _ => (r ()).outs]
def stillC_P (x : Node) : Prop := x.vm.regs.length ≤ 1048576 ∧ x.outs.length ≤ 1048576
def stillC_C : PC := fun A K => match A with
  | [.agg x] => Ob (fun _ => Dat.ok Node x ∧ stillC_P (Dat.dec x)) (Gen (α := Node) (fun _ => stillN (Dat.dec x)) fun r => K (stillC_R fun _ => r) (stillC_H fun _ => r))
  | _ => Bad 1002
set_option maxRecDepth 100000 in
set_option maxHeartbeats 4000000 in
theorem stillC_vc (x : Node) (hp : stillC_P x) : FnOk Tryd.prog 38 [.agg (Dat.enc fun _ => x)] [] (outA (stillC_R fun _ => stillN x) (stillC_H fun _ => stillN x)) := by
  refine fn_ok envOk zl noCon_ok (draws_ok envOk zl dSt_ok mixed) (keep := [0, 1, 2]) Tryd.func38 rfl ?_
  cbv
  repeat' first | (show Stp _; exfalso; first | omega | (exact h ‹_›) | (exact absurd ‹_› h) | (exact Bool.false_ne_true (h.symm.trans (show _ = true by assumption)))) | (refine Stp.mk ?_; cbv) | (refine Gen.mk fun r hr => ?_; (try simp only [Dat.ok, Dat.dec, Leaf.ok, Leaf.val, Ins.eta, Vm.eta, Emit.eta, Fence.eta, Gate.eta, Give.eta, PairAct.eta, Node.eta, Pair.eta, val_sl, val_nil] at hr); cbv) | exact trivial | rfl | refine Both.mk ?_ ?_ | (refine Imp.mk fun h => ?_; (try dsimp only at h); (try simp only [nc, Int.toNat_natCast, ne_eq, zz] at h); (try simp only [nc] at h)) | refine Ob.mk ?_ ?_ | refine Chk.mk (by kernel_rfl) ?_ | refine Eq'.mk ?_ | (refine AllN.mk fun i hi => ?_; cbv) | (refine AllC.mk fun c hc hcm => ?_; (try dsimp only at hc); cbv) | (refine AllS.mk fun r hr => ?_; (try simp only [Dat.ok, Dat.dec, Leaf.ok, Leaf.val, Ins.eta, Vm.eta, Emit.eta, Fence.eta, Gate.eta, Give.eta, PairAct.eta, Node.eta, Pair.eta, val_sl] at hr); cbv)
  all_goals ((try dsimp only at *); (try simp only [nc, Int.toNat_natCast, ne_eq, zz] at *); (try simp only [nc] at *))
  all_goals try simp only [Dat.dec, Leaf.val, Ins.eta, Vm.eta, Emit.eta, Fence.eta, Gate.eta, Give.eta, PairAct.eta, Node.eta, Pair.eta, val_sl] at *
  all_goals first
    | exact ⟨⟨rfl, fun i _ => Dat.hok _⟩, by have := hp.1; show (_ : Nat) ≤ _; omega⟩
    | exact ⟨⟨rfl, fun i _ => Dat.hok _⟩, by have := hp.2; show (_ : Nat) ≤ _; omega⟩
    | rfl
    | fail
theorem stillC_ok : PcOk Tryd.prog 38 (stillC_C) := fun A K h => by
  unfold stillC_C at h
  split at h
  · rename_i x
    cases h with
    | mk h1 h2 =>
      obtain ⟨g0, hp⟩ := h1
      refine FnOk.pre ?_ (A' := [.agg (Dat.enc fun _ => (Dat.dec x : Node))]) (.mk (Dat.hle _ g0) (trivial))
      exact FnOk.out (K := fun r H _ => K r H) (stillC_vc (Dat.dec x) hp) rfl h2.out
  · cases h
def stillF_R (r : Th (Node)) : AV := .agg [.i .i64 fun _ => (r ()).epoch, .i .i64 fun _ => (r ()).vm.at_, Leaf.av fun _ => (r ()).vm.regs, .b fun _ => (r ()).vm.halts, .b fun _ => (r ()).vm.fault, .i .i64 fun _ => (r ()).read, Leaf.av fun _ => (r ()).outs, .i .i64 fun _ => (r ()).sent]
def stillF_D : Det := fun A => match A with
  | [.agg x] => some (fun _ => Dat.ok Node x ∧ stillC_P (Dat.dec x), stillF_R fun _ => stillN (Dat.dec x))
  | _ => none
theorem stillF_ok : PcOk Tryd.prog 38 (detPC stillF_D) := det_okF fun A p r h hp0 => by
  unfold stillF_D at h
  split at h
  · rename_i x
    cases h
    obtain ⟨g0, hp⟩ := hp0
    exact FnOk.froz (FnOk.pre (A' := [.agg (Dat.enc fun _ => (Dat.dec x : Node))]) (stillC_vc (Dat.dec x) hp) (.mk (Dat.hle _ g0) (trivial))) rfl (q := _) (d := _) rfl (by intro p hp; repeat (first | (cases hp; done) | (rcases List.mem_cons.1 hp with rfl | hp; · exact Nat.le_refl _))) rfl ⟨rfl, rfl⟩
  · cases h
theorem stillF_okF : ∀ A p r, stillF_D A = some (p, r) → p () → FrOk Tryd.prog 38 A r := fun A p r h hp0 => by
  unfold stillF_D at h
  split at h
  · rename_i x
    cases h
    obtain ⟨g0, hp⟩ := hp0
    exact FnOk.fresh (A := [.agg x]) (FnOk.pre (A' := [.agg (Dat.enc fun _ => (Dat.dec x : Node))]) (stillC_vc (Dat.dec x) hp) (.mk (Dat.hle _ g0) (trivial))) rfl (q := _) (d := _) rfl (by intro p hp; repeat (first | (cases hp; done) | (rcases List.mem_cons.1 hp with rfl | hp; · exact Nat.le_refl _))) rfl rfl ⟨.mk fun _ _ => rfl, .mk fun _ _ => rfl, trivial⟩
  · cases h
/- The copy whose numbers are data, and what it let out a slice of its own. -/
def stillA (x : Th Node) : AV := .agg [.i .i64 fun _ => 0, .i .i64 fun _ => (x ()).vm.at_, .sl 1 (fun _ => (x ()).vm.regs.length) fun j => Dat.enc fun _ => (x ()).vm.regs.getD (j ()) Dat.d0, .b fun _ => (x ()).vm.halts, .b fun _ => (x ()).vm.fault, .i .i64 fun _ => (x ()).read, .own 0 fun _ => (x ()).outs.length, .i .i64 fun _ => 0]
def dSu : FuncId → Option Dt := fun f => match f with
  | 30 => some (.f clIntF_D)
  | 48 => some (.n clEmN_N)
  | _ => none
theorem dSu_ok : DetOk Tryd.prog dSu := fun f d h => by
  unfold dSu at h
  split at h
  · cases h; exact ⟨⟨Tryd.f30, Tryd.func30, by kernel_rfl, by kernel_rfl⟩, clIntF_okF⟩
  · cases h; exact ⟨⟨Tryd.f48, Tryd.func48, by kernel_rfl, by kernel_rfl⟩, clEmN_okN⟩
  · cases h
theorem stillO_vc (x : Node) (hp : x.vm.regs.length ≤ 1048576 ∧ x.outs.length ≤ 1048576) : FnOk Tryd.prog 38 [.agg (Dat.enc fun _ => x)] [] fun r H _ => r = stillA (fun _ => x) ∧ H = [vecO 52 fun _ => x.outs] := by
  refine FnOk.out (A := [.agg (Dat.enc fun _ => x)]) (r0 := stillA fun _ => x) (H0 := [vecO 52 fun _ => x.outs]) (K := fun r H _ => r = stillA (fun _ => x) ∧ H = [vecO 52 fun _ => x.outs]) ?_ rfl ⟨rfl, rfl⟩
  refine fn_ok envOk zl noCon_ok (draws_ok envOk zl dSu_ok mixed) (keep := [0, 1, 2]) Tryd.func38 rfl ?_
  cbv
  repeat' first | (show Stp _; exfalso; first | omega | (exact h ‹_›) | (exact absurd ‹_› h) | (exact Bool.false_ne_true (h.symm.trans (show _ = true by assumption)))) | (refine Stp.mk ?_; cbv) | (refine Gen.mk fun r hr => ?_; (try simp only [Dat.ok, Dat.dec, Leaf.ok, Leaf.val, Ins.eta, Vm.eta, Emit.eta, Fence.eta, Gate.eta, Give.eta, PairAct.eta, Node.eta, Pair.eta, val_sl, val_nil] at hr); cbv) | exact trivial | rfl | refine Both.mk ?_ ?_ | (refine Imp.mk fun h => ?_; (try dsimp only at h); (try simp only [nc, Int.toNat_natCast, ne_eq, zz] at h); (try simp only [nc] at h)) | refine Ob.mk ?_ ?_ | refine Chk.mk (by kernel_rfl) ?_ | refine Eq'.mk ?_ | (refine AllN.mk fun i hi => ?_; cbv) | (refine AllC.mk fun c hc hcm => ?_; (try dsimp only at hc); cbv) | (refine AllS.mk fun r hr => ?_; (try simp only [Dat.ok, Dat.dec, Leaf.ok, Leaf.val, Ins.eta, Vm.eta, Emit.eta, Fence.eta, Gate.eta, Give.eta, PairAct.eta, Node.eta, Pair.eta, val_sl] at hr); cbv)
  all_goals ((try dsimp only at *); (try simp only [nc, Int.toNat_natCast, ne_eq, zz] at *); (try simp only [nc] at *))
  all_goals try simp only [Dat.dec, Leaf.val, Ins.eta, Vm.eta, Emit.eta, Fence.eta, Gate.eta, Give.eta, PairAct.eta, Node.eta, Pair.eta, val_sl] at *
  all_goals first
    | exact ⟨⟨rfl, fun i _ => Dat.hok _⟩, by have := hp.1; show (_ : Nat) ≤ _; omega⟩
    | exact ⟨⟨rfl, fun i _ => Dat.hok _⟩, by have := hp.2; show (_ : Nat) ≤ _; omega⟩
    | rfl
    | fail
def stillO_N : DetN := fun A => match A with
  | [.agg x] => some (fun _ => Dat.ok Node x ∧ (Dat.dec x : Node).vm.regs.length ≤ 1048576 ∧ (Dat.dec x : Node).outs.length ≤ 1048576, stillA fun _ => (Dat.dec x : Node), vecO 52 fun _ => (Dat.dec x : Node).outs)
  | _ => none
theorem stillO_okN : PcOk Tryd.prog 38 (detNPC stillO_N) := det_okN fun A p r o h hp0 => by
  unfold stillO_N at h
  split at h
  · rename_i x
    cases h
    obtain ⟨g0, hp⟩ := hp0
    exact FnOk.pre (A' := [.agg (Dat.enc fun _ => (Dat.dec x : Node))]) (stillO_vc _ hp) (.mk (Dat.hle _ g0) trivial)
  · cases h
def freshA : AV := .agg [.i .i64 fun _ => 0, .i .i64 fun _ => 0, .sl 1 (fun _ => v0.regs.length) fun j => Dat.enc fun _ => v0.regs.getD (j ()) Dat.d0, .bc false, .bc false, .i .i64 fun _ => 0, .own 0 fun _ => 0, .i .i64 fun _ => 0]
noncomputable def cFn : FuncId → Con := fun f => match f with
  | 17 => frCon newF_D
  | _ => fun _ _ _ => Bad 1001
theorem cFn_ok : ConOk Tryd.prog cFn := fun f A H K h => by
  unfold cFn at h
  split at h
  · exact ⟨⟨Tryd.f17, Tryd.func17, by kernel_rfl, by kernel_rfl⟩, frCon_ok newF_okF h⟩
  · cases h
theorem freshO_vc : FnOk Tryd.prog 20 [] [] fun r H _ => r = freshA ∧ H = [vecO (α := Emit) 52 fun _ => []] := by
  refine FnOk.out (A := []) (r0 := freshA) (H0 := [vecO (α := Emit) 52 fun _ => []]) (K := fun r H _ => r = freshA ∧ H = [vecO (α := Emit) 52 fun _ => []]) ?_ rfl ⟨rfl, rfl⟩
  refine fn_ok envOk zl cFn_ok noDraws_ok (keep := [0]) Tryd.func20 rfl ?_
  cbv
  repeat' first | (show Stp _; exfalso; first | omega | (exact h ‹_›) | (exact absurd ‹_› h) | (exact Bool.false_ne_true (h.symm.trans (show _ = true by assumption)))) | (refine Stp.mk ?_; cbv) | (refine Gen.mk fun r hr => ?_; (try simp only [Dat.ok, Dat.dec, Leaf.ok, Leaf.val, Ins.eta, Vm.eta, Emit.eta, Fence.eta, Gate.eta, Give.eta, PairAct.eta, Node.eta, Pair.eta, val_sl, val_nil] at hr); cbv) | exact trivial | rfl | refine Both.mk ?_ ?_ | (refine Imp.mk fun h => ?_; (try dsimp only at h); (try simp only [nc, Int.toNat_natCast, ne_eq, zz] at h); (try simp only [nc] at h)) | refine Ob.mk ?_ ?_ | refine Chk.mk (by kernel_rfl) ?_ | refine Eq'.mk ?_ | (refine AllN.mk fun i hi => ?_; cbv) | (refine AllC.mk fun c hc hcm => ?_; (try dsimp only at hc); cbv) | (refine AllS.mk fun r hr => ?_; (try simp only [Dat.ok, Dat.dec, Leaf.ok, Leaf.val, Ins.eta, Vm.eta, Emit.eta, Fence.eta, Gate.eta, Give.eta, PairAct.eta, Node.eta, Pair.eta, val_sl] at hr); cbv)
  all_goals ((try dsimp only at *); (try simp only [nc, Int.toNat_natCast, ne_eq, zz] at *); (try simp only [nc] at *))
  all_goals try simp only [Dat.dec, Leaf.val, Ins.eta, Vm.eta, Emit.eta, Fence.eta, Gate.eta, Give.eta, PairAct.eta, Node.eta, Pair.eta, val_sl] at *
  all_goals first | exact absurd hi (Nat.not_lt_zero _) | fail
def freshP_C : PC := fun A PK => match A with
  | [] => PK freshA [vecO (α := Emit) 52 fun _ => []]
  | _ => Bad 300
theorem freshP_ok : PcOk Tryd.prog 20 freshP_C := fun A PK h => by
  unfold freshP_C at h
  split at h
  · exact FnOk.mono freshO_vc fun r H kl hq => by
      obtain ⟨h1, h2⟩ := hq
      subst h1 h2
      exact h
  · cases h

end Go.Proofs.YtddkjgdfjkklcaaDoor
