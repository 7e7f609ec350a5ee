/- What the nodes of a pair have let out: any two of them agree; for all inputs. -/
import Derived.Test.YtddkjgdfjkklcaaDoorPairM
import Derived.Test.YtddkjgdfjkklcaaDoorCards
import Derived.Test.YtddkjgdfjkklcaaDoorTie
import Derived.Deep.DeepHandedRow
import Derived.Stop.LaidErr
set_option linter.all false
namespace Go.Proofs.YtddkjgdfjkklcaaDoor
open Go Go.Abs

def clNode_R (r : Th ((List Node))) : AV := .own 0 fun _ => (r ()).length
def clNode_H (r : Th ((List Node))) : Hp := [vecO 49 fun _ => (r ())]
def clNode_P (l : (List Node)) : Prop := l.length ≤ 1099511627776
def clNode_C : PC := fun A K => match A with
  | [l] => Ob (fun _ => Leaf.ok (List Node) l ∧ clNode_P (Leaf.val l)) (Gen (α := (List Node)) (fun _ => (Leaf.val l)) fun r => K (clNode_R fun _ => r) (clNode_H fun _ => r))
  | _ => Bad 1002
set_option maxRecDepth 100000 in
set_option maxHeartbeats 4000000 in
theorem clNode_vc (l : (List Node)) (hp : clNode_P l) : FnOk Tryd.prog 12 [Leaf.av fun _ => l] [] (outA (clNode_R fun _ => l) (clNode_H fun _ => l)) := by
  refine fn_ok envOk zl noCon_ok noDraws_ok (keep := [0, 2, 4]) Tryd.func12 rfl ?_
  have hp' : l.length ≤ 1099511627776 := hp
  cbv
  repeat' first | (refine Stp.mk ?_; cbv) | (refine Gen.mk fun r hr => ?_; (try simp only [Dat.ok, Dat.dec, Leaf.ok, Leaf.val, Ins.eta, Vm.eta, Emit.eta, Fence.eta, Gate.eta, Give.eta, PairAct.eta, Node.eta, Pair.eta, val_sl, val_nil] at hr); cbv) | exact trivial | rfl | refine Both.mk ?_ ?_ | (refine Imp.mk fun h => ?_; (try dsimp only at h); (try simp only [nc, Int.toNat_natCast, ne_eq, zz] at h); (try simp only [nc] at h)) | refine Ob.mk ?_ ?_ | refine Chk.mk (by kernel_rfl) ?_ | refine Eq'.mk ?_ | (refine AllN.mk fun i hi => ?_; cbv) | (refine AllC.mk fun c hc hcm => ?_; (try dsimp only at hc); cbv) | (refine AllS.mk fun r hr => ?_; (try simp only [Dat.ok, Dat.dec, Leaf.ok, Leaf.val, Ins.eta, Vm.eta, Emit.eta, Fence.eta, Gate.eta, Give.eta, PairAct.eta, Node.eta, Pair.eta, val_sl] at hr); cbv)
  all_goals ((try dsimp only at *); (try simp only [nc, Int.toNat_natCast, ne_eq, zz] at *); (try simp only [nc] at *))
  all_goals first
    | omega
    | (exact ⟨Nat.le_refl _, trivial, by omega, by omega⟩)
    | (simp only [Nat.zero_add, Nat.sub_zero, Nat.not_lt_zero, decide_false, cond_false]; done)
    | (simp_all; done)
    | fail
theorem clNode_ok : PcOk Tryd.prog 12 (clNode_C) := fun A K h => by
  unfold clNode_C at h
  split at h
  · rename_i l
    cases h with
    | mk h1 h2 =>
      obtain ⟨g0, hp⟩ := h1
      refine FnOk.pre ?_ (A' := [Leaf.av fun _ => (Leaf.val l : (List Node))]) (.mk (Leaf.hle _ g0) (trivial))
      exact FnOk.out (K := fun r H _ => K r H) (clNode_vc (Leaf.val l) hp) rfl h2.out
  · cases h
def clNodeN_N : DetN := fun A => match A with
  | [l] => some (fun _ => Leaf.ok (List Node) l ∧ clNode_P (Leaf.val l), clNode_R fun _ => (Leaf.val l), vecO 49 fun _ => ((Leaf.val l) : (List Node)))
  | _ => none
theorem clNodeN_okN : PcOk Tryd.prog 12 (detNPC clNodeN_N) := det_okN fun A p r o h hp0 => by
  unfold clNodeN_N at h
  split at h
  · rename_i l
    cases h
    obtain ⟨g0, hp⟩ := hp0
    exact FnOk.pre (A' := [Leaf.av fun _ => (Leaf.val l : (List Node))]) (FnOk.out (clNode_vc (Leaf.val l) hp) rfl ⟨rfl, rfl⟩) (.mk (Leaf.hle _ g0) (trivial))
  · cases h
structure eqE_X (l m : List Emit) where
  k : Nat
  hk : k ≤ l.length
  hv : ∀ j, j < k → l.getD j Dat.d0 = m.getD j Dat.d0
def eqE_R (r : Th (Bool)) : AV := .b fun _ => (r ())
def eqE_S (l : (List Emit)) (m : (List Emit)) : Bool := decide (l = m)
def eqE_P (l : (List Emit)) (m : (List Emit)) : Prop := l.length ≤ 9223372036854775807
def eqE_D : Det := fun A => match A with
  | [l, m] => some (fun _ => Leaf.ok (List Emit) l ∧ Leaf.ok (List Emit) m ∧ eqE_P (Leaf.val l) (Leaf.val m), eqE_R fun _ => eqE_S (Leaf.val l) (Leaf.val m))
  | _ => none
set_option maxRecDepth 100000 in
set_option maxHeartbeats 4000000 in
theorem eqE_vc (l : (List Emit)) (m : (List Emit)) (hp : eqE_P l m) : FnOk Tryd.prog 13 [Leaf.av fun _ => l, Leaf.av fun _ => m] [] (outA (eqE_R fun _ => eqE_S l m) []) := by
  refine fn_ok envOk zl noCon_ok (draws_ok envOk zl noDet_ok mixed) (keep := [0, 1, 4, 5, 10, 12, 13, 14, 24]) Tryd.func13 rfl ?_
  have hp' : l.length ≤ 9223372036854775807 := hp
  have fin : ∀ (b : Bool) H kl, b = decide (l = m) → outA (eqE_R fun _ => eqE_S l m) [] (.bc b) H kl := by
    rintro b H kl rfl
    cbv
    repeat' first | (refine Stp.mk ?_; cbv) | (refine Gen.mk fun r hr => ?_; (try simp only [Dat.ok, Dat.dec, Leaf.ok, Leaf.val, Ins.eta, Vm.eta, Emit.eta, Fence.eta, Gate.eta, Give.eta, PairAct.eta, Node.eta, Pair.eta, val_sl, val_nil] at hr); cbv) | exact trivial | rfl | refine Both.mk ?_ ?_ | (refine Imp.mk fun h => ?_; (try dsimp only at h); (try simp only [nc, Int.toNat_natCast, ne_eq, zz] at h); (try simp only [nc] at h)) | refine Ob.mk ?_ ?_ | refine Chk.mk (by kernel_rfl) ?_ | refine Eq'.mk ?_ | (refine AllN.mk fun i hi => ?_; cbv) | (refine AllC.mk fun c hc hcm => ?_; (try dsimp only at hc); cbv) | (refine AllS.mk fun r hr => ?_; (try simp only [Dat.ok, Dat.dec, Leaf.ok, Leaf.val, Ins.eta, Vm.eta, Emit.eta, Fence.eta, Gate.eta, Give.eta, PairAct.eta, Node.eta, Pair.eta, val_sl] at hr); cbv)
  generalize outA (eqE_R fun _ => eqE_S l m) [] = K at fin
  cbv
  refine Both.mk (Imp.mk fun h1 => ?_) (Imp.mk fun h1 => ?_)
  all_goals (refine Stp.mk ?_; cbv; (try dsimp only at h1); (try simp only [nc, Int.toNat_natCast, ne_eq, zz] at h1); (try simp only [nc] at h1))
  · refine fin _ _ _ ?_
    exact (decide_eq_false (fun h => by subst h; omega)).symm
  · have hlen : l.length = m.length := by omega
    refine LoopVC.frame [4, 5, 13, 14, 24] (eqE_X l m) (fun x => [(13, .i .i64 fun _ => x.k)]) (fun _ => []) [] (fun x => l.length - x.k)
      ⟨0, Nat.zero_le _, fun j hj => absurd hj (Nat.not_lt_zero _)⟩ rfl (fun _ => rfl) ?_ ?_ fun ⟨k, hk, hv⟩ => ?_
    · cbv
      repeat' first | (refine Stp.mk ?_; cbv) | (refine Gen.mk fun r hr => ?_; (try simp only [Dat.ok, Dat.dec, Leaf.ok, Leaf.val, Ins.eta, Vm.eta, Emit.eta, Fence.eta, Gate.eta, Give.eta, PairAct.eta, Node.eta, Pair.eta, val_sl, val_nil] at hr); cbv) | exact trivial | rfl | refine Both.mk ?_ ?_ | (refine Imp.mk fun h => ?_; (try dsimp only at h); (try simp only [nc, Int.toNat_natCast, ne_eq, zz] at h); (try simp only [nc] at h)) | refine Ob.mk ?_ ?_ | refine Chk.mk (by kernel_rfl) ?_ | refine Eq'.mk ?_ | (refine AllN.mk fun i hi => ?_; cbv) | (refine AllC.mk fun c hc hcm => ?_; (try dsimp only at hc); cbv) | (refine AllS.mk fun r hr => ?_; (try simp only [Dat.ok, Dat.dec, Leaf.ok, Leaf.val, Ins.eta, Vm.eta, Emit.eta, Fence.eta, Gate.eta, Give.eta, PairAct.eta, Node.eta, Pair.eta, val_sl] at hr); cbv)
    · cbv
    · cbv
      repeat' first | (refine Stp.mk ?_; cbv) | (refine Gen.mk fun r hr => ?_; (try simp only [Dat.ok, Dat.dec, Leaf.ok, Leaf.val, Ins.eta, Vm.eta, Emit.eta, Fence.eta, Gate.eta, Give.eta, PairAct.eta, Node.eta, Pair.eta, val_sl, val_nil] at hr); cbv) | exact trivial | rfl | refine Both.mk ?_ ?_ | (refine Imp.mk fun h => ?_; (try dsimp only at h); (try simp only [nc, Int.toNat_natCast, ne_eq, zz] at h); (try simp only [nc] at h)) | refine Ob.mk ?_ ?_ | refine Chk.mk (by kernel_rfl) ?_ | refine Eq'.mk ?_ | (refine AllN.mk fun i hi => ?_; cbv) | (refine AllC.mk fun c hc hcm => ?_; (try dsimp only at hc); cbv) | (refine AllS.mk fun r hr => ?_; (try simp only [Dat.ok, Dat.dec, Leaf.ok, Leaf.val, Ins.eta, Vm.eta, Emit.eta, Fence.eta, Gate.eta, Give.eta, PairAct.eta, Node.eta, Pair.eta, val_sl] at hr); cbv)
      all_goals ((try dsimp only at *); (try simp only [nc, Int.toNat_natCast, ne_eq, zz] at *); (try simp only [nc] at *))
      all_goals first
        | omega
        | (unfold InR; omega)
        | (refine fin _ _ _ (decide_eq_true ?_).symm
           apply List.ext_getElem hlen
           intro i h1 h2
           have := hv i (by omega)
           simpa [h1, h2] using this)
        | (refine fin _ _ _ (decide_eq_false fun h => ?_).symm
           subst h
           simp_all; done)
        | skip
      all_goals (
        refine ⟨⟨k + 1, by omega, fun j hj => ?_⟩, ?_, trivial, rfl, by (try dsimp only); omega⟩
        · rcases Nat.lt_succ_iff_lt_or_eq.1 hj with hj | rfl
          · exact hv j hj
          · first | assumption | (generalize l.getD j Dat.d0 = a at *; generalize m.getD j Dat.d0 = b at *; cases a; cases b; simp_all; done)
        · cbv
          repeat' first | (refine Stp.mk ?_; cbv) | (refine Gen.mk fun r hr => ?_; (try simp only [Dat.ok, Dat.dec, Leaf.ok, Leaf.val, Ins.eta, Vm.eta, Emit.eta, Fence.eta, Gate.eta, Give.eta, PairAct.eta, Node.eta, Pair.eta, val_sl, val_nil] at hr); cbv) | exact trivial | rfl | refine Both.mk ?_ ?_ | (refine Imp.mk fun h => ?_; (try dsimp only at h); (try simp only [nc, Int.toNat_natCast, ne_eq, zz] at h); (try simp only [nc] at h)) | refine Ob.mk ?_ ?_ | refine Chk.mk (by kernel_rfl) ?_ | refine Eq'.mk ?_ | (refine AllN.mk fun i hi => ?_; cbv) | (refine AllC.mk fun c hc hcm => ?_; (try dsimp only at hc); cbv) | (refine AllS.mk fun r hr => ?_; (try simp only [Dat.ok, Dat.dec, Leaf.ok, Leaf.val, Ins.eta, Vm.eta, Emit.eta, Fence.eta, Gate.eta, Give.eta, PairAct.eta, Node.eta, Pair.eta, val_sl] at hr); cbv))
theorem eqE_ok : PcOk Tryd.prog 13 (detPC eqE_D) := det_okA fun A p r h hp0 => by
  unfold eqE_D at h
  split at h
  · rename_i l m
    cases h
    obtain ⟨g0, g1, hp⟩ := hp0
    exact ⟨rfl, FnOk.pre (A' := [Leaf.av fun _ => (Leaf.val l : (List Emit)), Leaf.av fun _ => (Leaf.val m : (List Emit))]) (eqE_vc (Leaf.val l) (Leaf.val m) hp) (.mk (Leaf.hle _ g0) (.mk (Leaf.hle _ g1) (trivial)))⟩
  · cases h
attribute [local irreducible] playA
structure NdX (n : Nat) where
  k : Nat
  hk : k ≤ n
theorem nodes_at {code : List Ins} {n : Int} {l : List PairAct} (h : (playA code n l).2.2 = 0) {x : Node} (hx : x ∈ (playA code n l).1.nodes ++ (playA code n l).1.saved) : NOk code (playA code n l).1.log l.length x := by
  have P := play_st h
  rcases List.mem_append.1 hx with q | q
  · exact P.nd x q
  · exact P.sd x q
theorem nodes_bd {code : List Ins} {n : Int} {l : List PairAct} (h : (playA code n l).2.2 = 0) {x : Node} (hx : x ∈ (playA code n l).1.nodes ++ (playA code n l).1.saved) : 0 ≤ x.read ∧ x.read ≤ (playA code n l).1.log.length ∧ 0 ≤ x.sent ∧ x.sent ≤ x.outs.length ∧ x.outs.length ≤ 5000 := by
  obtain ⟨⟨f, h1, h2⟩, h3, h4⟩ := nodes_at h hx
  obtain ⟨r0, r1, -⟩ := at_read h2
  obtain ⟨a1, a2, a3, a4⟩ := h2
  obtain ⟨-, -, -, i4⟩ := run_inp (p := code) f (mac0 v0 (playA code n l).1.log)
  have i4 : ((runM code f (mac0 v0 (playA code n l).1.log)).1.out.length : Int) - 0 ≤ (runM code f (mac0 v0 (playA code n l).1.log)).2 := i4
  rw [a1, a3] at i4
  have := (play_ok h).2.2.2.1
  exact ⟨r0, r1, h3, h4, by omega⟩
theorem nodes_eq {code : List Ins} {n : Int} {l : List PairAct} (h : (playA code n l).2.2 = 0) {x y : Node} (hx : x ∈ (playA code n l).1.nodes ++ (playA code n l).1.saved) (hy : y ∈ (playA code n l).1.nodes ++ (playA code n l).1.saved) {k : Nat} (h1 : k ≤ x.outs.length) (h2 : k ≤ y.outs.length) : x.outs.take k = y.outs.take k := by
  obtain ⟨⟨f, -, p⟩, -⟩ := nodes_at h hx
  obtain ⟨⟨g, -, q⟩, -⟩ := nodes_at h hy
  rcases at_comp p q with r | r
  · obtain ⟨t, ht⟩ := r
    rw [← ht, List.take_append_of_le_length h1]
  · obtain ⟨t, ht⟩ := r
    rw [← ht, List.take_append_of_le_length h2]
theorem gl_app {a b : List Node} {i : Nat} (h : i < a.length) : (a ++ b).getD i Dat.d0 = a.getD i Dat.d0 := by
  rw [List.getD_eq_getElem?_getD, List.getElem?_append_left h, List.getD_eq_getElem?_getD]
theorem gr_app {a b : List Node} {i : Nat} (h : a.length ≤ i) : (a ++ b).getD i Dat.d0 = b.getD (i - a.length) Dat.d0 := by
  rw [List.getD_eq_getElem?_getD, List.getElem?_append_right h, List.getD_eq_getElem?_getD]
theorem gb_app {a b : List Node} {i : Nat} {β : Type} (f : Node → β) : (bif decide (i < a.length) then f (a.getD i Dat.d0) else f (b.getD (i - a.length) Dat.d0)) = f ((a ++ b).getD i Dat.d0) := by
  by_cases h : i < a.length
  · rw [decide_eq_true h, gl_app h]; rfl
  · rw [decide_eq_false h, gr_app (by omega)]; rfl
theorem mem_gd {l : List Node} {k : Nat} (h : k < l.length) : l.getD k Dat.d0 ∈ l := getD_memN h
noncomputable def cPN : FuncId → Con := fun f => match f with
  | 8 => frzCon (detPC playC_D)
  | 9 => pureCon (detPC plives_D)
  | 13 => pureCon (detPC eqE_D)
  | _ => fun _ _ _ => Bad 1001
theorem cPN_ok : ConOk Tryd.prog cPN := fun f A H K h => by
  unfold cPN at h
  split at h
  · exact ⟨⟨Tryd.f8, Tryd.func8, by kernel_rfl, by kernel_rfl⟩, frzCon_ok playC_ok h⟩
  · exact ⟨⟨Tryd.f9, Tryd.func9, by kernel_rfl, by kernel_rfl⟩, pureCon_ok plives_ok h⟩
  · exact ⟨⟨Tryd.f13, Tryd.func13, by kernel_rfl, by kernel_rfl⟩, pureCon_ok eqE_ok h⟩
  · cases h
def dPN : FuncId → Option Dt := fun f => match f with
  | 12 => some (.n clNodeN_N)
  | 13 => some (.c eqE_D)
  | _ => none
theorem dPN_ok : DetOk Tryd.prog dPN := fun f d h => by
  unfold dPN at h
  split at h
  · cases h; exact ⟨⟨Tryd.f12, Tryd.func12, by kernel_rfl, by kernel_rfl⟩, clNodeN_okN⟩
  · cases h; exact ⟨⟨Tryd.f13, Tryd.func13, by kernel_rfl, by kernel_rfl⟩, eqE_ok⟩
  · cases h
set_option maxRecDepth 100000 in
set_option maxHeartbeats 4000000 in
theorem prnodes_vc (code : (List Ins)) (n : Int) (l : (List PairAct)) (fit_code : Siz.fit code) (fit_n : Siz.fit n) (fit_l : Siz.fit l) (hB : Siz.bulk code + Siz.bulk n + Siz.bulk l ≤ 1048576) : FnOk Tryd.prog 4 [Leaf.av fun _ => code, .i .i64 fun _ => n, Leaf.av fun _ => l] [] (outA (.bc true) []) := by
  refine fn_ok envOk zl cPN_ok (draws_ok envOk zl dPN_ok mixed) (keep := [0, 1, 2, 6, 7, 9, 10, 11, 12, 14, 15, 29, 37, 38, 39, 40, 67, 70, 71, 72, 73, 92]) Tryd.func4 rfl ?_
  have fin := @fin_b
  have finc := @fin_t
  have e40 : maxLen ≤ 9223372036854775807 := by unfold maxLen; decide
  have lc : code.length ≤ 9223372036854775807 := Nat.le_trans fit_code.1 e40
  have ll : l.length ≤ 9223372036854775807 := Nat.le_trans fit_l.1 e40
  clear hB
  generalize outA (.bc true) [] = K at fin finc
  cbv
  repeat' first | (show Stp _; exfalso; first | omega | (exact h ‹_›) | (exact absurd ‹_› h) | (exact Bool.false_ne_true (h.symm.trans (show _ = true by assumption)))) | (refine Stp.mk ?_; cbv) | (refine Gen.mk fun r hr => ?_; (try simp only [Dat.ok, Dat.dec, Leaf.ok, Leaf.val, Ins.eta, Vm.eta, Emit.eta, Fence.eta, Gate.eta, Give.eta, PairAct.eta, Node.eta, Pair.eta, val_sl, val_nil] at hr); cbv) | exact trivial | rfl | refine Both.mk ?_ ?_ | (refine Imp.mk fun h => ?_; (try dsimp only at h); (try simp only [nc, Int.toNat_natCast, ne_eq, zz] at h); (try simp only [nc] at h)) | refine Ob.mk ?_ ?_ | refine Chk.mk (by kernel_rfl) ?_ | refine Eq'.mk ?_ | (refine AllN.mk fun i hi => ?_; cbv) | (refine AllC.mk fun c hc hcm => ?_; (try dsimp only at hc); cbv) | (refine AllS.mk fun r hr => ?_; (try simp only [Dat.ok, Dat.dec, Leaf.ok, Leaf.val, Ins.eta, Vm.eta, Emit.eta, Fence.eta, Gate.eta, Give.eta, PairAct.eta, Node.eta, Pair.eta, val_sl] at hr); cbv)
  all_goals ((try dsimp only at *); (try simp only [nc, Int.toNat_natCast, ne_eq, zz] at *); (try simp only [nc] at *))
  all_goals try simp only [Dat.dec, Leaf.val, Ins.eta, Vm.eta, Emit.eta, Fence.eta, Gate.eta, Give.eta, PairAct.eta, Node.eta, Pair.eta, val_sl] at *
  all_goals try first
    | exact ⟨⟨rfl, fun i _ => Dat.hok _⟩, ⟨rfl, fun i _ => Dat.hok _⟩, lc, ll⟩
    | exact finc
  all_goals have H0 : (playA code n l).2.2 = 0 := by assumption
  all_goals have P := play_st H0
  all_goals have hpl := (play_ok H0).2.2.2.1
  all_goals have hnl := (play_ok H0).2.2.1
  all_goals have hbd := fun x => @nodes_bd code n l H0 x
  all_goals have heq := fun x y => @nodes_eq code n l H0 x y
  all_goals have hln := P.ln
  all_goals have hls := P.ls
  all_goals have hll := P.ll
  all_goals clear P H0
  all_goals generalize (playA code n l).1 = p at *
  · exact ⟨⟨rfl, fun i _ => Dat.hok _⟩, show _ ≤ _ by omega⟩
  · exact ⟨Nat.le_refl _, trivial, by omega, by omega, Nat.le_refl _⟩
  refine LoopVC.frame [6, 11, 12, 14, 15, 39, 40, 67, 70, 71, 72, 73, 92] (NdX (p.nodes ++ p.saved).length) (fun x => [(39, .i .i64 fun _ => x.k)]) (fun x => [(1, vecO 49 fun _ => p.nodes ++ p.saved)]) [1] (fun x => (p.nodes ++ p.saved).length - x.k) ⟨0, Nat.zero_le _⟩ rfl (fun _ => rfl) ?_ ?_ fun ⟨i, hi⟩ => ?_
  · cbv
    repeat' first | (refine Stp.mk ?_; cbv) | (refine Gen.mk fun r hr => ?_; (try simp only [Dat.ok, Dat.dec, Leaf.ok, Leaf.val, Ins.eta, Vm.eta, Emit.eta, Fence.eta, Gate.eta, Give.eta, PairAct.eta, Node.eta, Pair.eta, val_sl, val_nil] at hr); cbv) | exact trivial | rfl | refine Both.mk ?_ ?_ | (refine Imp.mk fun h => ?_; (try dsimp only at h); (try simp only [nc, Int.toNat_natCast, ne_eq, zz] at h); (try simp only [nc] at h)) | refine Ob.mk ?_ ?_ | refine Chk.mk (by kernel_rfl) ?_ | refine Eq'.mk ?_ | (refine AllN.mk fun i hi => ?_; cbv) | (refine AllC.mk fun c hc hcm => ?_; (try dsimp only at hc); cbv) | (refine AllS.mk fun r hr => ?_; (try simp only [Dat.ok, Dat.dec, Leaf.ok, Leaf.val, Ins.eta, Vm.eta, Emit.eta, Fence.eta, Gate.eta, Give.eta, PairAct.eta, Node.eta, Pair.eta, val_sl] at hr); cbv)
    all_goals exact (List.length_append ..).symm
  · cbv
    repeat' first | (refine Stp.mk ?_; cbv) | (refine Gen.mk fun r hr => ?_; (try simp only [Dat.ok, Dat.dec, Leaf.ok, Leaf.val, Ins.eta, Vm.eta, Emit.eta, Fence.eta, Gate.eta, Give.eta, PairAct.eta, Node.eta, Pair.eta, val_sl, val_nil] at hr); cbv) | exact trivial | rfl | refine Both.mk ?_ ?_ | (refine Imp.mk fun h => ?_; (try dsimp only at h); (try simp only [nc, Int.toNat_natCast, ne_eq, zz] at h); (try simp only [nc] at h)) | refine Ob.mk ?_ ?_ | refine Chk.mk (by kernel_rfl) ?_ | refine Eq'.mk ?_ | (refine AllN.mk fun i hi => ?_; cbv) | (refine AllC.mk fun c hc hcm => ?_; (try dsimp only at hc); cbv) | (refine AllS.mk fun r hr => ?_; (try simp only [Dat.ok, Dat.dec, Leaf.ok, Leaf.val, Ins.eta, Vm.eta, Emit.eta, Fence.eta, Gate.eta, Give.eta, PairAct.eta, Node.eta, Pair.eta, val_sl] at hr); cbv)
    all_goals dsimp only
    all_goals first
      | exact (List.length_append ..).symm
      | exact gb_app Node.epoch
      | exact gb_app fun x => x.vm.at_
      | exact gb_app fun x => x.vm.halts
      | exact gb_app fun x => x.vm.fault
      | exact gb_app Node.read
      | exact gb_app Node.sent
      | (rw [gl_app (by assumption)]; done)
      | (rw [gr_app (by assumption)]; done)
      | fail
  have hi9 : i ≤ (p.nodes ++ p.saved).length := hi
  have hA : (p.nodes ++ p.saved).length = p.nodes.length + p.saved.length := List.length_append ..
  cbv
  repeat' first | (show Stp _; exfalso; first | omega | (exact h ‹_›) | (exact absurd ‹_› h) | (exact Bool.false_ne_true (h.symm.trans (show _ = true by assumption)))) | (refine Stp.mk ?_; cbv) | (refine Gen.mk fun r hr => ?_; (try simp only [Dat.ok, Dat.dec, Leaf.ok, Leaf.val, Ins.eta, Vm.eta, Emit.eta, Fence.eta, Gate.eta, Give.eta, PairAct.eta, Node.eta, Pair.eta, val_sl, val_nil] at hr); cbv) | exact trivial | rfl | refine Both.mk ?_ ?_ | (refine Imp.mk fun h => ?_; (try dsimp only at h); (try simp only [nc, Int.toNat_natCast, ne_eq, zz] at h); (try simp only [nc] at h)) | refine Ob.mk ?_ ?_ | refine Chk.mk (by kernel_rfl) ?_ | refine Eq'.mk ?_ | (refine AllN.mk fun i hi => ?_; cbv) | (refine AllC.mk fun c hc hcm => ?_; (try dsimp only at hc); cbv) | (refine AllS.mk fun r hr => ?_; (try simp only [Dat.ok, Dat.dec, Leaf.ok, Leaf.val, Ins.eta, Vm.eta, Emit.eta, Fence.eta, Gate.eta, Give.eta, PairAct.eta, Node.eta, Pair.eta, val_sl] at hr); cbv)
  all_goals ((try dsimp only at *); (try simp only [nc, Int.toNat_natCast, ne_eq, zz] at *); (try simp only [nc] at *))
  all_goals try rw [nc] at *
  all_goals try simp only [Dat.dec, Leaf.val, Ins.eta, Vm.eta, Emit.eta, Fence.eta, Gate.eta, Give.eta, PairAct.eta, Node.eta, Pair.eta, val_sl] at *
  all_goals try first
    | exact finc
    | exact ⟨by omega, by omega⟩
    | exact ⟨trivial, by omega, by omega⟩
    | (show _ < _; omega)
    | (exfalso
       have := hbd _ (mem_gd (l := p.nodes ++ p.saved) (k := i) (by omega))
       omega)
    | (exfalso
       have := hbd _ (mem_gd (l := p.nodes ++ p.saved) (k := i) (by omega))
       revert h
       simp only [this.1, this.2]
       done)
  have hi8 : i < (p.nodes ++ p.saved).length := by omega
  have hi7 := mem_gd hi8
  have hi6 := hbd _ hi7
  refine LoopVC.frame [6, 14, 15, 72, 73, 92] (NdX i) (fun x => [(72, .i .i64 fun _ => x.k)]) (fun _ => [(1, vecO 49 fun _ => p.nodes ++ p.saved)]) [1] (fun x => i - x.k) ⟨0, Nat.zero_le _⟩ rfl (fun _ => rfl) ?_ ?_ fun ⟨j, hj⟩ => ?_
  · cbv
    repeat' first | (refine Stp.mk ?_; cbv) | (refine Gen.mk fun r hr => ?_; (try simp only [Dat.ok, Dat.dec, Leaf.ok, Leaf.val, Ins.eta, Vm.eta, Emit.eta, Fence.eta, Gate.eta, Give.eta, PairAct.eta, Node.eta, Pair.eta, val_sl, val_nil] at hr); cbv) | exact trivial | rfl | refine Both.mk ?_ ?_ | (refine Imp.mk fun h => ?_; (try dsimp only at h); (try simp only [nc, Int.toNat_natCast, ne_eq, zz] at h); (try simp only [nc] at h)) | refine Ob.mk ?_ ?_ | refine Chk.mk (by kernel_rfl) ?_ | refine Eq'.mk ?_ | (refine AllN.mk fun i hi => ?_; cbv) | (refine AllC.mk fun c hc hcm => ?_; (try dsimp only at hc); cbv) | (refine AllS.mk fun r hr => ?_; (try simp only [Dat.ok, Dat.dec, Leaf.ok, Leaf.val, Ins.eta, Vm.eta, Emit.eta, Fence.eta, Gate.eta, Give.eta, PairAct.eta, Node.eta, Pair.eta, val_sl] at hr); cbv)
    all_goals fail
  · cbv
    repeat' first | (refine Stp.mk ?_; cbv) | (refine Gen.mk fun r hr => ?_; (try simp only [Dat.ok, Dat.dec, Leaf.ok, Leaf.val, Ins.eta, Vm.eta, Emit.eta, Fence.eta, Gate.eta, Give.eta, PairAct.eta, Node.eta, Pair.eta, val_sl, val_nil] at hr); cbv) | exact trivial | rfl | refine Both.mk ?_ ?_ | (refine Imp.mk fun h => ?_; (try dsimp only at h); (try simp only [nc, Int.toNat_natCast, ne_eq, zz] at h); (try simp only [nc] at h)) | refine Ob.mk ?_ ?_ | refine Chk.mk (by kernel_rfl) ?_ | refine Eq'.mk ?_ | (refine AllN.mk fun i hi => ?_; cbv) | (refine AllC.mk fun c hc hcm => ?_; (try dsimp only at hc); cbv) | (refine AllS.mk fun r hr => ?_; (try simp only [Dat.ok, Dat.dec, Leaf.ok, Leaf.val, Ins.eta, Vm.eta, Emit.eta, Fence.eta, Gate.eta, Give.eta, PairAct.eta, Node.eta, Pair.eta, val_sl] at hr); cbv)
    all_goals fail
  have hj9 : j ≤ i := hj
  cbv
  repeat' first | (show Stp _; exfalso; first | omega | (exact h ‹_›) | (exact absurd ‹_› h) | (exact Bool.false_ne_true (h.symm.trans (show _ = true by assumption)))) | (refine Stp.mk ?_; cbv) | (refine Gen.mk fun r hr => ?_; (try simp only [Dat.ok, Dat.dec, Leaf.ok, Leaf.val, Ins.eta, Vm.eta, Emit.eta, Fence.eta, Gate.eta, Give.eta, PairAct.eta, Node.eta, Pair.eta, val_sl, val_nil] at hr); cbv) | exact trivial | rfl | refine Both.mk ?_ ?_ | (refine Imp.mk fun h => ?_; (try dsimp only at h); (try simp only [nc, Int.toNat_natCast, ne_eq, zz] at h); (try simp only [nc] at h)) | refine Ob.mk ?_ ?_ | refine Chk.mk (by kernel_rfl) ?_ | refine Eq'.mk ?_ | (refine AllN.mk fun i hi => ?_; cbv) | (refine AllC.mk fun c hc hcm => ?_; (try dsimp only at hc); cbv) | (refine AllS.mk fun r hr => ?_; (try simp only [Dat.ok, Dat.dec, Leaf.ok, Leaf.val, Ins.eta, Vm.eta, Emit.eta, Fence.eta, Gate.eta, Give.eta, PairAct.eta, Node.eta, Pair.eta, val_sl] at hr); cbv)
  all_goals ((try dsimp only at *); (try simp only [nc, Int.toNat_natCast, ne_eq, zz] at *); (try simp only [nc] at *))
  all_goals try rw [nc] at *
  all_goals try simp only [Dat.dec, Leaf.val, Ins.eta, Vm.eta, Emit.eta, Fence.eta, Gate.eta, Give.eta, PairAct.eta, Node.eta, Pair.eta, val_sl] at *
  all_goals first
    | exact ⟨by omega, by omega⟩
    | (unfold InR; omega)
    | (show _ < _; omega)
    | (refine ⟨⟨j + 1, by omega⟩, ?_, ?_, rfl, by (try dsimp only); omega⟩
       · cbv
         repeat' first | (refine Stp.mk ?_; cbv) | (refine Gen.mk fun r hr => ?_; (try simp only [Dat.ok, Dat.dec, Leaf.ok, Leaf.val, Ins.eta, Vm.eta, Emit.eta, Fence.eta, Gate.eta, Give.eta, PairAct.eta, Node.eta, Pair.eta, val_sl, val_nil] at hr); cbv) | exact trivial | rfl | refine Both.mk ?_ ?_ | (refine Imp.mk fun h => ?_; (try dsimp only at h); (try simp only [nc, Int.toNat_natCast, ne_eq, zz] at h); (try simp only [nc] at h)) | refine Ob.mk ?_ ?_ | refine Chk.mk (by kernel_rfl) ?_ | refine Eq'.mk ?_ | (refine AllN.mk fun i hi => ?_; cbv) | (refine AllC.mk fun c hc hcm => ?_; (try dsimp only at hc); cbv) | (refine AllS.mk fun r hr => ?_; (try simp only [Dat.ok, Dat.dec, Leaf.ok, Leaf.val, Ins.eta, Vm.eta, Emit.eta, Fence.eta, Gate.eta, Give.eta, PairAct.eta, Node.eta, Pair.eta, val_sl] at hr); cbv)
       · cbv
         repeat' first | (refine Stp.mk ?_; cbv) | (refine Gen.mk fun r hr => ?_; (try simp only [Dat.ok, Dat.dec, Leaf.ok, Leaf.val, Ins.eta, Vm.eta, Emit.eta, Fence.eta, Gate.eta, Give.eta, PairAct.eta, Node.eta, Pair.eta, val_sl, val_nil] at hr); cbv) | exact trivial | rfl | refine Both.mk ?_ ?_ | (refine Imp.mk fun h => ?_; (try dsimp only at h); (try simp only [nc, Int.toNat_natCast, ne_eq, zz] at h); (try simp only [nc] at h)) | refine Ob.mk ?_ ?_ | refine Chk.mk (by kernel_rfl) ?_ | refine Eq'.mk ?_ | (refine AllN.mk fun i hi => ?_; cbv) | (refine AllC.mk fun c hc hcm => ?_; (try dsimp only at hc); cbv) | (refine AllS.mk fun r hr => ?_; (try simp only [Dat.ok, Dat.dec, Leaf.ok, Leaf.val, Ins.eta, Vm.eta, Emit.eta, Fence.eta, Gate.eta, Give.eta, PairAct.eta, Node.eta, Pair.eta, val_sl] at hr); cbv))
    | (refine ⟨⟨i + 1, by omega⟩, ?_, ?_, rfl, by (try dsimp only); omega⟩
       · cbv
         repeat' first | (refine Stp.mk ?_; cbv) | (refine Gen.mk fun r hr => ?_; (try simp only [Dat.ok, Dat.dec, Leaf.ok, Leaf.val, Ins.eta, Vm.eta, Emit.eta, Fence.eta, Gate.eta, Give.eta, PairAct.eta, Node.eta, Pair.eta, val_sl, val_nil] at hr); cbv) | exact trivial | rfl | refine Both.mk ?_ ?_ | (refine Imp.mk fun h => ?_; (try dsimp only at h); (try simp only [nc, Int.toNat_natCast, ne_eq, zz] at h); (try simp only [nc] at h)) | refine Ob.mk ?_ ?_ | refine Chk.mk (by kernel_rfl) ?_ | refine Eq'.mk ?_ | (refine AllN.mk fun i hi => ?_; cbv) | (refine AllC.mk fun c hc hcm => ?_; (try dsimp only at hc); cbv) | (refine AllS.mk fun r hr => ?_; (try simp only [Dat.ok, Dat.dec, Leaf.ok, Leaf.val, Ins.eta, Vm.eta, Emit.eta, Fence.eta, Gate.eta, Give.eta, PairAct.eta, Node.eta, Pair.eta, val_sl] at hr); cbv)
       · cbv
         repeat' first | (refine Stp.mk ?_; cbv) | (refine Gen.mk fun r hr => ?_; (try simp only [Dat.ok, Dat.dec, Leaf.ok, Leaf.val, Ins.eta, Vm.eta, Emit.eta, Fence.eta, Gate.eta, Give.eta, PairAct.eta, Node.eta, Pair.eta, val_sl, val_nil] at hr); cbv) | exact trivial | rfl | refine Both.mk ?_ ?_ | (refine Imp.mk fun h => ?_; (try dsimp only at h); (try simp only [nc, Int.toNat_natCast, ne_eq, zz] at h); (try simp only [nc] at h)) | refine Ob.mk ?_ ?_ | refine Chk.mk (by kernel_rfl) ?_ | refine Eq'.mk ?_ | (refine AllN.mk fun i hi => ?_; cbv) | (refine AllC.mk fun c hc hcm => ?_; (try dsimp only at hc); cbv) | (refine AllS.mk fun r hr => ?_; (try simp only [Dat.ok, Dat.dec, Leaf.ok, Leaf.val, Ins.eta, Vm.eta, Emit.eta, Fence.eta, Gate.eta, Give.eta, PairAct.eta, Node.eta, Pair.eta, val_sl] at hr); cbv))
    | skip
  all_goals have hj8 : j < (p.nodes ++ p.saved).length := by omega
  all_goals have hj7 := mem_gd hj8
  all_goals have hj6 := hbd _ hj7
  all_goals have hE := fun k => @heq _ _ hi7 hj7 k
  all_goals have hM : 0 ≤ (if ((((p.nodes ++ p.saved).getD j Dat.d0).outs.length : Nat) : Int) < (((p.nodes ++ p.saved).getD i Dat.d0).outs.length : Nat) then ((((p.nodes ++ p.saved).getD j Dat.d0).outs.length : Nat) : Int) else (((p.nodes ++ p.saved).getD i Dat.d0).outs.length : Nat)) ∧ (if ((((p.nodes ++ p.saved).getD j Dat.d0).outs.length : Nat) : Int) < (((p.nodes ++ p.saved).getD i Dat.d0).outs.length : Nat) then ((((p.nodes ++ p.saved).getD j Dat.d0).outs.length : Nat) : Int) else (((p.nodes ++ p.saved).getD i Dat.d0).outs.length : Nat)) ≤ (((p.nodes ++ p.saved).getD i Dat.d0).outs.length : Nat) ∧ (if ((((p.nodes ++ p.saved).getD j Dat.d0).outs.length : Nat) : Int) < (((p.nodes ++ p.saved).getD i Dat.d0).outs.length : Nat) then ((((p.nodes ++ p.saved).getD j Dat.d0).outs.length : Nat) : Int) else (((p.nodes ++ p.saved).getD i Dat.d0).outs.length : Nat)) ≤ (((p.nodes ++ p.saved).getD j Dat.d0).outs.length : Nat) := by split <;> omega
  all_goals generalize (if ((((p.nodes ++ p.saved).getD j Dat.d0).outs.length : Nat) : Int) < (((p.nodes ++ p.saved).getD i Dat.d0).outs.length : Nat) then ((((p.nodes ++ p.saved).getD j Dat.d0).outs.length : Nat) : Int) else (((p.nodes ++ p.saved).getD i Dat.d0).outs.length : Nat)) = M at *
  all_goals generalize (p.nodes ++ p.saved).getD i Dat.d0 = x at *
  all_goals generalize (p.nodes ++ p.saved).getD j Dat.d0 = y at *
  all_goals have vx := val_takeI (α := Emit) x.outs 2 M hM.1 hM.2.1
  all_goals have vy := val_takeI (α := Emit) y.outs 2 M hM.1 hM.2.2
  all_goals first
    | exact ⟨Int.le_refl _, hM.1, hM.2.1⟩
    | exact ⟨Int.le_refl _, hM.1, hM.2.2⟩
    | (refine ⟨⟨rfl, fun i _ => Dat.hok _⟩, ⟨rfl, fun i _ => Dat.hok _⟩, ?_⟩
       rw [vx]
       show (x.outs.take M.toNat).length ≤ _
       rw [List.length_take]
       omega)
    | (exfalso
       rw [vx, vy, hE M.toNat (by omega) (by omega)] at h
       revert h
       unfold eqE_S
       simp
       done)
    | fail
section
open Go.ChangeShapes Go.WideShapes Go.ChangeAt Go.RowKit Go.Joins Go.Deep
set_option linter.unusedVariables false
theorem prnodes_own : ownKnob Tryd.prog.godebug = none := by kernel_rfl
theorem prnodes_tab0 {W : World} (h : laidMetH Tryd.prog Rows.pairNodesUptoRow.laid W) : Lib.TabIs Tryd.prog W "internal/strconv.uint64pow10" .u64 Lib.pow10Tab := by
  have h2 : laidMet Tryd.prog (Rows.pairNodesUptoRow.laid.drop 2) W := laidMet.tail (laidMet.tail (h))
  have hT : (Tryd.prog.globals[0]?).map (·.type) = some 116 := by kernel_rfl
  have hz : Lib.pow10Tab = [1, 10, 100, 1000, 10000, 100000, 1000000, 10000000, 100000000, 1000000000, 10000000000, 100000000000, 1000000000000, 10000000000000, 100000000000000, 1000000000000000, 10000000000000000, 100000000000000000, 1000000000000000000, 10000000000000000000] := by decide +kernel
  rw [hz]
  exact Lib.tabIs_of_head (n := 20) (e := 107) (by kernel_rfl) hT (by kernel_rfl) (by kernel_rfl) (by kernel_rfl) (by kernel_rfl) h2
theorem prnodes_dom {W : World} (h : laidMetH Tryd.prog Rows.pairNodesUptoRow.laid W) : Dom W fun _ => False := by
  have ht := prnodes_tab0 h
  refine ⟨fun _ h => h.elim, fun g hg => ⟨?_, fun h => h⟩, ht⟩
  obtain rfl : g = 0 := by simpa [Kd.tl, kdI] using hg
  have hv := ht
  unfold Lib.TabIs World.var? at hv
  rw [show Tryd.prog.globalNamed "internal/strconv.uint64pow10" = some 0 by kernel_rfl] at hv
  rcases Nat.lt_or_ge 0 W.heap.size with q | q
  · exact q
  · simp [Array.getElem?_eq_none q] at hv
def prnodes_setC (cs : Array Value) : Obj → Obj
  | .cells _ t frozen => .cells cs t frozen
  | o => o
noncomputable def prnodes_laidWorld (os : Os) : World :=
  { World.holding Tryd.prog os ⟨#[], #[], []⟩ with heap := ((((World.holding Tryd.prog os ⟨#[], #[], []⟩).heap).modify 1 (prnodes_setC #[.int .u8 0, .int .u8 1, .int .u8 28, .int .u8 2, .int .u8 29, .int .u8 14, .int .u8 24, .int .u8 3, .int .u8 30, .int .u8 22, .int .u8 20, .int .u8 15, .int .u8 25, .int .u8 17, .int .u8 4, .int .u8 8, .int .u8 31, .int .u8 27, .int .u8 13, .int .u8 23, .int .u8 21, .int .u8 19, .int .u8 16, .int .u8 7, .int .u8 26, .int .u8 12, .int .u8 18, .int .u8 6, .int .u8 11, .int .u8 5, .int .u8 10, .int .u8 9])).modify 2 (prnodes_setC #[.int .u8 0, .int .u8 1, .int .u8 56, .int .u8 2, .int .u8 57, .int .u8 49, .int .u8 28, .int .u8 3, .int .u8 61, .int .u8 58, .int .u8 42, .int .u8 50, .int .u8 38, .int .u8 29, .int .u8 17, .int .u8 4, .int .u8 62, .int .u8 47, .int .u8 59, .int .u8 36, .int .u8 45, .int .u8 43, .int .u8 51, .int .u8 22, .int .u8 53, .int .u8 39, .int .u8 33, .int .u8 30, .int .u8 24, .int .u8 18, .int .u8 12, .int .u8 5, .int .u8 63, .int .u8 55, .int .u8 48, .int .u8 27, .int .u8 60, .int .u8 41, .int .u8 37, .int .u8 16, .int .u8 46, .int .u8 35, .int .u8 44, .int .u8 21, .int .u8 52, .int .u8 32, .int .u8 23, .int .u8 11, .int .u8 54, .int .u8 26, .int .u8 40, .int .u8 15, .int .u8 34, .int .u8 20, .int .u8 31, .int .u8 10, .int .u8 25, .int .u8 14, .int .u8 19, .int .u8 9, .int .u8 13, .int .u8 8, .int .u8 7, .int .u8 6])).modify 0 (prnodes_setC #[.int .u64 1, .int .u64 10, .int .u64 100, .int .u64 1000, .int .u64 10000, .int .u64 100000, .int .u64 1000000, .int .u64 10000000, .int .u64 100000000, .int .u64 1000000000, .int .u64 10000000000, .int .u64 100000000000, .int .u64 1000000000000, .int .u64 10000000000000, .int .u64 100000000000000, .int .u64 1000000000000000, .int .u64 10000000000000000, .int .u64 100000000000000000, .int .u64 1000000000000000000, .int .u64 10000000000000000000]) }
theorem prnodes_laid_met (os : Os) : laidMet Tryd.prog Rows.pairNodesUptoRow.laid ((prnodes_laidWorld os).forCall (fun _ _ => 0) ⟨#[], #[.slice none 0 0, .int .i64 0, .slice none 0 0], []⟩).memory :=
  laidMet_of_run' 8 (by kernel_rfl) (by kernel_rfl)
theorem prnodes_reads (os : Os) {H : Type} (enc : TypeId × Value → H) : ∃ places, DataW.whole enc Tryd.prog ((prnodes_laidWorld os).forCall (fun _ _ => 0) ⟨#[], #[.slice none 0 0, .int .i64 0, .slice none 0 0], []⟩).memory Tryd.f4.params.toList Rows.pairNodesSpec.vars false (#[.slice none 0 0, .int .i64 0, .slice none 0 0] : Array Value).toList 8 = some ([.nil, .lit (.int .i64 0), .nil], [], places) :=
  ⟨[], by kernel_rfl⟩
theorem prnodes_laidOut : laidOutB Tryd.prog = true := by kernel_rfl
theorem prnodes_readOk {ts : Array TypeId} (h : ts.toList.all (fun t => Tryd.prog.readableRec t && decide (t < Tryd.prog.types.size)) = true) : ∀ t ∈ ts.toList, Tryd.prog.readableRec t = true ∧ t < Tryd.prog.types.size := fun t ht => by
  have := List.all_eq_true.1 h t ht
  simpa using this
mutual
theorem prnodes_bD {H : Type} : ∀ d : DataW H, Rows.uptoBulk d = bulkD d
  | .lit l => by cases l <;> simp [Rows.uptoBulk, bulkD]
  | .nil => by simp [Rows.uptoBulk, bulkD]
  | .ptr d => by simp [Rows.uptoBulk, bulkD, prnodes_bD d]
  | .slice a b => by simp [Rows.uptoBulk, bulkD, prnodes_bL a, prnodes_bL b]
  | .agg a => by simp [Rows.uptoBulk, bulkD, prnodes_bL a]
  | .iface _ d => by simp [Rows.uptoBulk, bulkD, prnodes_bD d]
  | .map e => by simp [Rows.uptoBulk, bulkD, prnodes_bE e]
  | .held _ => by simp [Rows.uptoBulk, bulkD]
theorem prnodes_bL {H : Type} : ∀ d : List (DataW H), Rows.uptoBulkAll d = bulkL d
  | [] => by simp [Rows.uptoBulkAll, bulkL]
  | d :: r => by simp [Rows.uptoBulkAll, bulkL, prnodes_bD d, prnodes_bL r]
theorem prnodes_bE {H : Type} : ∀ d : List (Lit × DataW H), Rows.uptoBulkEntries d = bulkE d
  | [] => by simp [Rows.uptoBulkEntries, bulkE]
  | d :: r => by simp [Rows.uptoBulkEntries, bulkE, prnodes_bX d, prnodes_bE r]
theorem prnodes_bX {H : Type} : ∀ d : Lit × DataW H, Rows.uptoBulkEntry d = bulkX d
  | (l, d) => by cases l <;> simp [Rows.uptoBulkEntry, bulkX, prnodes_bD d]
end
set_option maxRecDepth 100000 in
theorem prnodes_lifted (os : Os) (started : os.Started) (H : Type) (enc : TypeId × Value → H) (F : Stop.Interp) :
    ReturnsInHanded {} Tryd.checked os 4 .any ((Rows.OpenSpec.upto Rows.pairNodesSpec).preRow enc Tryd.prog Tryd.f4 Rows.pairNodesUptoRow.domain false Rows.pairNodesUptoRow.laid) (((Rows.OpenSpec.upto Rows.pairNodesSpec).at F).post enc Tryd.prog Tryd.f4 false true false false) := by
  obtain ⟨places, hx⟩ := prnodes_reads os enc
  refine returnsInHanded_of_row (C := Tryd.checked) (s := Rows.OpenSpec.upto Rows.pairNodesSpec) prnodes_own started (by kernel_rfl) Tryd.func4
    (witness_row_at (enc := enc) (C := Tryd.checked) false (prnodes_laidWorld os) #[.slice none 0 0, .int .i64 0, .slice none 0 0] rfl (by kernel_rfl) (by kernel_rfl) (by kernel_rfl)
      (OpenSpec.preRow_of_cond 8 hx (by kernel_rfl) (fun k hk => by cases hk; kernel_rfl) (by kernel_rfl) (prnodes_laid_met os))) ?_
  intro W base args ds gs before hval0 hW _ hk0 _ hL _ _
  have hk := hk0 _ rfl
  show Calls Tryd.prog 4 args W fun e W' => ∃ v, e = .returned v ∧ Rows.pairNodesSpec.post enc Tryd.prog Tryd.f4 false true false false W args v W'
  have hval : ∀ (j : Nat) t v, Tryd.f4.params[j]? = some t → args[j]? = some v → Value.okWide Tryd.prog W .any base t v := hval0
  have hW' := hW
  have hlt := hW.lt
  obtain ⟨p, q, hA0, hV, rfl, hfz, hnd⟩ := hW
  have hA : DataW.TrodAll enc Tryd.prog W 0 (fun _ => true) true Tryd.f4.params.toList args.toList ds p := hA0
  have hA1 := hA
  rw [Tryd.params4] at hA hval
  obtain ⟨v0, vs0, d0, ds0, p0, q0, hargs, rfl, rfl, h0, r0⟩ := trodAll_cons hA
  obtain ⟨v1, vs1, d1, ds1, p1, q1, rfl, rfl, rfl, h1, r1⟩ := trodAll_cons r0
  obtain ⟨v2, vs2, d2, ds2, p2, q2, rfl, rfl, rfl, h2, r2⟩ := trodAll_cons r1
  obtain ⟨rfl, rfl, rfl⟩ := trodAll_nil r2
  obtain rfl : args = #[v0, v1, v2] := by cases args; simp_all
  obtain ⟨rfl, rfl⟩ := trodVars_none hV
  obtain ⟨z0, z'0, z''0, rfl⟩ := okWide_slice Tryd.underlying22 (hval 0 22 v0 rfl rfl)
  obtain ⟨y0, u0, b0, e0⟩ := arg_leaf (α := (List Ins)) (opn_slice Tryd.underlying22 (by kernel_rfl) (by decide) opn_Ins) rfl h0
  obtain ⟨z1, rfl⟩ := okWide_int Tryd.underlying3 (hval 1 3 v1 rfl rfl)
  obtain ⟨y1, u1, b1, e1⟩ := arg_leaf (α := Int) (opn_int Tryd.underlying3) rfl h1
  obtain ⟨z2, z'2, z''2, rfl⟩ := okWide_slice Tryd.underlying23 (hval 2 23 v2 rfl rfl)
  obtain ⟨y2, u2, b2, e2⟩ := arg_leaf (α := (List PairAct)) (opn_slice Tryd.underlying23 (by kernel_rfl) (by decide) opn_PairAct) rfl h2
  have hB : Siz.bulk y0 + Siz.bulk y1 + Siz.bulk y2 ≤ 1048576 := by
    have h := of_decide_eq_true hk
    rw [prnodes_bL] at h
    simp only [List.append_nil, bulkL] at h
    omega
  have hR := repL_cons (M := fun _ => False) (β := fun _ => none) (cp := fun _ => 0) (.c e0) (repL_cons (M := fun _ => False) (β := fun _ => none) (cp := fun _ => 0) (.c e1) (repL_cons (M := fun _ => False) (β := fun _ => none) (cp := fun _ => 0) (.c e2) (repL_nil)))
  refine (law_callsA (prnodes_vc y0 y1 y2 u0 u1 u2 hB) hR (prnodes_dom hL)).mono fun e W' ⟨he, bel⟩ => ?_
  subst he
  exact ⟨_, rfl, _, _, _, [], _, [], hW', trodAll_mk1 (shut_bool Tryd.underlying4 _), trodAll_below prnodes_laidOut bel (prnodes_readOk (by kernel_rfl)) (fun x hx => hlt x (List.mem_append_left _ hx)) hA1, rfl, bel.frame _, fun h => by cases h⟩
theorem prnodes_bare : Rows.PairNodesUptoSaid :=
  OpenClaim.holds_of_cond 4 Tryd.f4 rfl rfl rfl rfl rfl rfl rfl ⟨rfl, rfl, rfl, rfl, rfl⟩ rfl rfl rfl rfl rfl (by kernel_rfl) Tryd.func4 (by kernel_rfl)
    (of_decide_eq_true (by kernel_rfl)) (by unfold Func.isWrapper; first | (rw [if_pos (by decide +kernel)]; kernel_rfl) | (rw [if_neg (by decide +kernel)]; exact ⟨rfl, rfl⟩))
    (fun os started H enc _ F => by rw [OpenClaim.pre_eq_preRow]; exact prnodes_lifted os started H enc F)
theorem prnodes_plain (f : FuncId) (fn : Func) (hf : Tryd.pinned.checked.prog.funcNamed "dutyroster/dutykeep.PairNodes" = some f) (hfn : Tryd.pinned.checked.prog.funcs[f]? = some fn) :
    false = Tryd.pinned.checked.prog.looks [] ∧ ∀ (j : Nat) t, fn.params[j]? = some t → Tryd.pinned.checked.prog.wantsStandIn t = false := by
  obtain rfl : f = 4 := Option.some.inj ((show Tryd.prog.funcNamed "dutyroster/dutykeep.PairNodes" = some 4 by kernel_rfl).symm.trans hf) |>.symm
  obtain rfl : fn = Tryd.f4 := (Option.some.inj (Tryd.func4.symm.trans hfn)).symm
  refine ⟨by kernel_rfl, fun j t ht => ?_⟩
  rw [Tryd.params4] at ht
  have hm := Array.mem_of_getElem? ht
  simp at hm
  rcases hm with rfl | rfl | rfl
  all_goals (show Tryd.prog.wantsStandIn _ = false; kernel_rfl)
set_option maxRecDepth 100000 in
theorem PairNodes_proved : Rows.PairNodesUptoCardSaid :=
  Claim7.holds_tied_plain_at .later [] _ _ _ _ prnodes_bare (fun _ h => by cases h) (by kernel_rfl) (fun _ h => by cases h) pairNodesUpto_row_tie rfl ⟨rfl, rfl⟩ (by kernel_rfl) rfl prnodes_plain (by kernel_rfl)
end

end Go.Proofs.YtddkjgdfjkklcaaDoor
