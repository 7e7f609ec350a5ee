/- parts.own: walked. -/
import Derived.Test.YtbnpacdkllmblaaPartC
import Derived.Test.YtbnpacdkllmblaaAbsG4
import Derived.Test.YtbnpacdkllmblaaAbsG3
set_option linter.all false
namespace Go.Proofs.Ytbnpacdkllmblaa
open Go Go.Abs

def clWin_R (r : Th ((List Window))) : AV := .own 0 fun _ => (r ()).length
def clWin_H (r : Th ((List Window))) : Hp := [vecO 63 fun _ => (r ())]
def clWin_P (l : (List Window)) : Prop := l.length ≤ 1099511627776
def clWin_C : PC := fun A K => match A with
  | [l] => Ob (fun _ => Leaf.ok (List Window) l ∧ clWin_P (Leaf.val l)) (Gen (α := (List Window)) (fun _ => (Leaf.val l)) fun r => K (clWin_R fun _ => r) (clWin_H fun _ => r))
  | _ => Bad 1002
set_option maxRecDepth 100000 in
set_option maxHeartbeats 4000000 in
theorem clWin_vc (l : (List Window)) (hp : clWin_P l) : FnOk Try.prog 23 [Leaf.av fun _ => l] [] (outA (clWin_R fun _ => l) (clWin_H fun _ => l)) := by
  refine fn_ok envOk zl noCon_ok noDraws_ok (keep := [0, 2, 4]) Try.func23 rfl ?_
  have hp' : l.length ≤ 1099511627776 := hp
  cbv
  repeat' first | (refine Stp.mk ?_; cbv) | (refine Gen.mk fun r hr => ?_; (try simp only [Dat.ok, Dat.dec, Leaf.ok, Leaf.val, Z0, Z1, Z2, Z3, Z4, Z5, Z6, Z7, val_sl, val_nil] at hr); cbv) | exact trivial | rfl | refine Both.mk ?_ ?_ | (refine Imp.mk fun h => ?_; (try dsimp only at h); (try simp only [nc, Int.toNat_natCast, ne_eq, zz] at h); (try simp only [nc] at h)) | refine Ob.mk ?_ ?_ | refine Chk.mk (by kernel_rfl) ?_ | refine Eq'.mk ?_ | (refine AllN.mk fun i hi => ?_; cbv) | (refine AllC.mk fun c hc hcm => ?_; (try dsimp only at hc); cbv) | (refine AllS.mk fun r hr => ?_; (try simp only [Dat.ok, Dat.dec, Leaf.ok, Leaf.val, Z0, Z1, Z2, Z3, Z4, Z5, Z6, Z7, val_sl] at hr); cbv)
  all_goals ((try dsimp only at *); (try simp only [nc, Int.toNat_natCast, ne_eq, zz] at *); (try simp only [nc] at *))
  all_goals first
    | omega
    | (exact ⟨Nat.le_refl _, trivial, by omega, by omega⟩)
    | (simp only [Nat.zero_add, Nat.sub_zero, Nat.not_lt_zero, decide_false, cond_false]; done)
    | (simp_all; done)
    | fail
theorem clWin_ok : PcOk Try.prog 23 (clWin_C) := fun A K h => by
  unfold clWin_C at h
  split at h
  · rename_i l
    cases h with
    | mk h1 h2 =>
      obtain ⟨g0, hp⟩ := h1
      refine FnOk.pre ?_ (A' := [Leaf.av fun _ => (Leaf.val l : (List Window))]) (.mk (Leaf.hle _ g0) (trivial))
      exact FnOk.out (K := fun r H _ => K r H) (clWin_vc (Leaf.val l) hp) rfl h2.out
  · cases h
def clWire_R (r : Th ((List Wire))) : AV := .own 0 fun _ => (r ()).length
def clWire_H (r : Th ((List Wire))) : Hp := [vecO 39 fun _ => (r ())]
def clWire_P (l : (List Wire)) : Prop := l.length ≤ 1099511627776
def clWire_C : PC := fun A K => match A with
  | [l] => Ob (fun _ => Leaf.ok (List Wire) l ∧ clWire_P (Leaf.val l)) (Gen (α := (List Wire)) (fun _ => (Leaf.val l)) fun r => K (clWire_R fun _ => r) (clWire_H fun _ => r))
  | _ => Bad 1002
set_option maxRecDepth 100000 in
set_option maxHeartbeats 4000000 in
theorem clWire_vc (l : (List Wire)) (hp : clWire_P l) : FnOk Try.prog 24 [Leaf.av fun _ => l] [] (outA (clWire_R fun _ => l) (clWire_H fun _ => l)) := by
  refine fn_ok envOk zl noCon_ok noDraws_ok (keep := [0, 2, 4]) Try.func24 rfl ?_
  have hp' : l.length ≤ 1099511627776 := hp
  cbv
  repeat' first | (refine Stp.mk ?_; cbv) | (refine Gen.mk fun r hr => ?_; (try simp only [Dat.ok, Dat.dec, Leaf.ok, Leaf.val, Z0, Z1, Z2, Z3, Z4, Z5, Z6, Z7, val_sl, val_nil] at hr); cbv) | exact trivial | rfl | refine Both.mk ?_ ?_ | (refine Imp.mk fun h => ?_; (try dsimp only at h); (try simp only [nc, Int.toNat_natCast, ne_eq, zz] at h); (try simp only [nc] at h)) | refine Ob.mk ?_ ?_ | refine Chk.mk (by kernel_rfl) ?_ | refine Eq'.mk ?_ | (refine AllN.mk fun i hi => ?_; cbv) | (refine AllC.mk fun c hc hcm => ?_; (try dsimp only at hc); cbv) | (refine AllS.mk fun r hr => ?_; (try simp only [Dat.ok, Dat.dec, Leaf.ok, Leaf.val, Z0, Z1, Z2, Z3, Z4, Z5, Z6, Z7, val_sl] at hr); cbv)
  all_goals ((try dsimp only at *); (try simp only [nc, Int.toNat_natCast, ne_eq, zz] at *); (try simp only [nc] at *))
  all_goals first
    | omega
    | (exact ⟨Nat.le_refl _, trivial, by omega, by omega⟩)
    | (simp only [Nat.zero_add, Nat.sub_zero, Nat.not_lt_zero, decide_false, cond_false]; done)
    | (simp_all; done)
    | fail
theorem clWire_ok : PcOk Try.prog 24 (clWire_C) := fun A K h => by
  unfold clWire_C at h
  split at h
  · rename_i l
    cases h with
    | mk h1 h2 =>
      obtain ⟨g0, hp⟩ := h1
      refine FnOk.pre ?_ (A' := [Leaf.av fun _ => (Leaf.val l : (List Wire))]) (.mk (Leaf.hle _ g0) (trivial))
      exact FnOk.out (K := fun r H _ => K r H) (clWire_vc (Leaf.val l) hp) rfl h2.out
  · cases h
def clIns_R (r : Th ((List Ins))) : AV := .own 0 fun _ => (r ()).length
def clIns_H (r : Th ((List Ins))) : Hp := [vecO 48 fun _ => (r ())]
def clIns_P (l : (List Ins)) : Prop := l.length ≤ 1099511627776
def clIns_C : PC := fun A K => match A with
  | [l] => Ob (fun _ => Leaf.ok (List Ins) l ∧ clIns_P (Leaf.val l)) (Gen (α := (List Ins)) (fun _ => (Leaf.val l)) fun r => K (clIns_R fun _ => r) (clIns_H fun _ => r))
  | _ => Bad 1002
set_option maxRecDepth 100000 in
set_option maxHeartbeats 4000000 in
theorem clIns_vc (l : (List Ins)) (hp : clIns_P l) : FnOk Try.prog 25 [Leaf.av fun _ => l] [] (outA (clIns_R fun _ => l) (clIns_H fun _ => l)) := by
  refine fn_ok envOk zl noCon_ok noDraws_ok (keep := [0, 2, 4]) Try.func25 rfl ?_
  have hp' : l.length ≤ 1099511627776 := hp
  cbv
  repeat' first | (refine Stp.mk ?_; cbv) | (refine Gen.mk fun r hr => ?_; (try simp only [Dat.ok, Dat.dec, Leaf.ok, Leaf.val, Z0, Z1, Z2, Z3, Z4, Z5, Z6, Z7, val_sl, val_nil] at hr); cbv) | exact trivial | rfl | refine Both.mk ?_ ?_ | (refine Imp.mk fun h => ?_; (try dsimp only at h); (try simp only [nc, Int.toNat_natCast, ne_eq, zz] at h); (try simp only [nc] at h)) | refine Ob.mk ?_ ?_ | refine Chk.mk (by kernel_rfl) ?_ | refine Eq'.mk ?_ | (refine AllN.mk fun i hi => ?_; cbv) | (refine AllC.mk fun c hc hcm => ?_; (try dsimp only at hc); cbv) | (refine AllS.mk fun r hr => ?_; (try simp only [Dat.ok, Dat.dec, Leaf.ok, Leaf.val, Z0, Z1, Z2, Z3, Z4, Z5, Z6, Z7, val_sl] at hr); cbv)
  all_goals ((try dsimp only at *); (try simp only [nc, Int.toNat_natCast, ne_eq, zz] at *); (try simp only [nc] at *))
  all_goals first
    | omega
    | (exact ⟨Nat.le_refl _, trivial, by omega, by omega⟩)
    | (simp only [Nat.zero_add, Nat.sub_zero, Nat.not_lt_zero, decide_false, cond_false]; done)
    | (simp_all; done)
    | fail
theorem clIns_ok : PcOk Try.prog 25 (clIns_C) := fun A K h => by
  unfold clIns_C at h
  split at h
  · rename_i l
    cases h with
    | mk h1 h2 =>
      obtain ⟨g0, hp⟩ := h1
      refine FnOk.pre ?_ (A' := [Leaf.av fun _ => (Leaf.val l : (List Ins))]) (.mk (Leaf.hle _ g0) (trivial))
      exact FnOk.out (K := fun r H _ => K r H) (clIns_vc (Leaf.val l) hp) rfl h2.out
  · cases h
def clWinF_R (r : Th ((List Window))) : AV := Leaf.av fun _ => (r ())
def clWinF_D : Det := fun A => match A with
  | [l] => some (fun _ => Leaf.ok (List Window) l ∧ clWin_P (Leaf.val l), clWinF_R fun _ => (Leaf.val l))
  | _ => none
theorem clWinF_ok : PcOk Try.prog 23 (detPC clWinF_D) := det_okF fun A p r h hp0 => by
  unfold clWinF_D at h
  split at h
  · rename_i l
    cases h
    obtain ⟨g0, hp⟩ := hp0
    exact FnOk.froz (FnOk.pre (A' := [Leaf.av fun _ => (Leaf.val l : (List Window))]) (clWin_vc (Leaf.val l) hp) (.mk (Leaf.hle _ g0) (trivial))) rfl (q := _) (d := _) rfl (by intro p hp; repeat (first | (cases hp; done) | (rcases List.mem_cons.1 hp with rfl | hp; · exact Nat.le_refl _))) rfl ⟨rfl, rfl⟩
  · cases h
theorem clWinF_okF : ∀ A p r, clWinF_D A = some (p, r) → p () → FrOk Try.prog 23 A r := fun A p r h hp0 => by
  unfold clWinF_D at h
  split at h
  · rename_i l
    cases h
    obtain ⟨g0, hp⟩ := hp0
    exact FnOk.fresh (A := [l]) (FnOk.pre (A' := [Leaf.av fun _ => (Leaf.val l : (List Window))]) (clWin_vc (Leaf.val l) hp) (.mk (Leaf.hle _ g0) (trivial))) rfl (q := _) (d := _) rfl (by intro p hp; repeat (first | (cases hp; done) | (rcases List.mem_cons.1 hp with rfl | hp; · exact Nat.le_refl _))) rfl rfl ⟨.mk fun _ _ => rfl, trivial⟩
  · cases h
def clWireF_R (r : Th ((List Wire))) : AV := Leaf.av fun _ => (r ())
def clWireF_D : Det := fun A => match A with
  | [l] => some (fun _ => Leaf.ok (List Wire) l ∧ clWire_P (Leaf.val l), clWireF_R fun _ => (Leaf.val l))
  | _ => none
theorem clWireF_ok : PcOk Try.prog 24 (detPC clWireF_D) := det_okF fun A p r h hp0 => by
  unfold clWireF_D at h
  split at h
  · rename_i l
    cases h
    obtain ⟨g0, hp⟩ := hp0
    exact FnOk.froz (FnOk.pre (A' := [Leaf.av fun _ => (Leaf.val l : (List Wire))]) (clWire_vc (Leaf.val l) hp) (.mk (Leaf.hle _ g0) (trivial))) rfl (q := _) (d := _) rfl (by intro p hp; repeat (first | (cases hp; done) | (rcases List.mem_cons.1 hp with rfl | hp; · exact Nat.le_refl _))) rfl ⟨rfl, rfl⟩
  · cases h
theorem clWireF_okF : ∀ A p r, clWireF_D A = some (p, r) → p () → FrOk Try.prog 24 A r := fun A p r h hp0 => by
  unfold clWireF_D at h
  split at h
  · rename_i l
    cases h
    obtain ⟨g0, hp⟩ := hp0
    exact FnOk.fresh (A := [l]) (FnOk.pre (A' := [Leaf.av fun _ => (Leaf.val l : (List Wire))]) (clWire_vc (Leaf.val l) hp) (.mk (Leaf.hle _ g0) (trivial))) rfl (q := _) (d := _) rfl (by intro p hp; repeat (first | (cases hp; done) | (rcases List.mem_cons.1 hp with rfl | hp; · exact Nat.le_refl _))) rfl rfl ⟨.mk fun _ _ => rfl, trivial⟩
  · cases h
def clInsF_R (r : Th ((List Ins))) : AV := Leaf.av fun _ => (r ())
def clInsF_D : Det := fun A => match A with
  | [l] => some (fun _ => Leaf.ok (List Ins) l ∧ clIns_P (Leaf.val l), clInsF_R fun _ => (Leaf.val l))
  | _ => none
theorem clInsF_ok : PcOk Try.prog 25 (detPC clInsF_D) := det_okF fun A p r h hp0 => by
  unfold clInsF_D at h
  split at h
  · rename_i l
    cases h
    obtain ⟨g0, hp⟩ := hp0
    exact FnOk.froz (FnOk.pre (A' := [Leaf.av fun _ => (Leaf.val l : (List Ins))]) (clIns_vc (Leaf.val l) hp) (.mk (Leaf.hle _ g0) (trivial))) rfl (q := _) (d := _) rfl (by intro p hp; repeat (first | (cases hp; done) | (rcases List.mem_cons.1 hp with rfl | hp; · exact Nat.le_refl _))) rfl ⟨rfl, rfl⟩
  · cases h
theorem clInsF_okF : ∀ A p r, clInsF_D A = some (p, r) → p () → FrOk Try.prog 25 A r := fun A p r h hp0 => by
  unfold clInsF_D at h
  split at h
  · rename_i l
    cases h
    obtain ⟨g0, hp⟩ := hp0
    exact FnOk.fresh (A := [l]) (FnOk.pre (A' := [Leaf.av fun _ => (Leaf.val l : (List Ins))]) (clIns_vc (Leaf.val l) hp) (.mk (Leaf.hle _ g0) (trivial))) rfl (q := _) (d := _) rfl (by intro p hp; repeat (first | (cases hp; done) | (rcases List.mem_cons.1 hp with rfl | hp; · exact Nat.le_refl _))) rfl rfl ⟨.mk fun _ _ => rfl, trivial⟩
  · cases h
def clIntF_R (r : Th ((List Int))) : AV := Leaf.av fun _ => (r ())
def clIntF_D : Det := fun A => match A with
  | [l] => some (fun _ => Leaf.ok (List Int) l ∧ clInt_P (Leaf.val l), clIntF_R fun _ => (Leaf.val l))
  | _ => none
theorem clIntF_ok : PcOk Try.prog 26 (detPC clIntF_D) := det_okF fun A p r h hp0 => by
  unfold clIntF_D at h
  split at h
  · rename_i l
    cases h
    obtain ⟨g0, hp⟩ := hp0
    exact FnOk.froz (FnOk.pre (A' := [Leaf.av fun _ => (Leaf.val l : (List Int))]) (clInt_vc (Leaf.val l) hp) (.mk (Leaf.hle _ g0) (trivial))) rfl (q := _) (d := _) rfl (by intro p hp; repeat (first | (cases hp; done) | (rcases List.mem_cons.1 hp with rfl | hp; · exact Nat.le_refl _))) rfl ⟨rfl, rfl⟩
  · cases h
theorem clIntF_okF : ∀ A p r, clIntF_D A = some (p, r) → p () → FrOk Try.prog 26 A r := fun A p r h hp0 => by
  unfold clIntF_D at h
  split at h
  · rename_i l
    cases h
    obtain ⟨g0, hp⟩ := hp0
    exact FnOk.fresh (A := [l]) (FnOk.pre (A' := [Leaf.av fun _ => (Leaf.val l : (List Int))]) (clInt_vc (Leaf.val l) hp) (.mk (Leaf.hle _ g0) (trivial))) rfl (q := _) (d := _) rfl (by intro p hp; repeat (first | (cases hp; done) | (rcases List.mem_cons.1 hp with rfl | hp; · exact Nat.le_refl _))) rfl rfl ⟨.mk fun _ _ => rfl, trivial⟩
  · cases h
inductive EitC (c1 c2 : Con) (A : List AV) (H : Hp) (K : Kont) : Prop where
  | l (h : c1 A H K)
  | r (h : c2 A H K)
noncomputable def clIntE_K : Con := EitC (pureCon clInt_C) (frCon clIntF_D)
theorem clIntE_ok {A : List AV} {H : Hp} {K : Kont} (hv : clIntE_K A H K) : FnOk Try.prog 26 A H K := by
  cases hv with
  | l h => exact pureCon_ok clInt_ok h
  | r h => exact frCon_ok clIntF_okF h
noncomputable def cOwn : FuncId → Con := fun f => match f with
  | 23 => frCon clWinF_D
  | 24 => frCon clWireF_D
  | 25 => frCon clInsF_D
  | 26 => clIntE_K
  | _ => fun _ _ _ => Bad 1001
theorem cOwn_ok : ConOk Try.prog cOwn := fun f A H K h => by
  unfold cOwn at h
  split at h
  · exact ⟨⟨Try.f23, Try.func23, by kernel_rfl, by kernel_rfl⟩, frCon_ok clWinF_okF h⟩
  · exact ⟨⟨Try.f24, Try.func24, by kernel_rfl, by kernel_rfl⟩, frCon_ok clWireF_okF h⟩
  · exact ⟨⟨Try.f25, Try.func25, by kernel_rfl, by kernel_rfl⟩, frCon_ok clInsF_okF h⟩
  · exact ⟨⟨Try.f26, Try.func26, by kernel_rfl, by kernel_rfl⟩, clIntE_ok h⟩
  · cases h
def dOwn : FuncId → Option Dt := fun f => match f with
  | 23 => some (.f clWinF_D)
  | 24 => some (.f clWireF_D)
  | _ => none
theorem dOwn_ok : DetOk Try.prog dOwn := fun f d h => by
  unfold dOwn at h
  split at h
  · cases h; exact ⟨⟨Try.f23, Try.func23, by kernel_rfl, by kernel_rfl⟩, clWinF_okF⟩
  · cases h; exact ⟨⟨Try.f24, Try.func24, by kernel_rfl, by kernel_rfl⟩, clWireF_okF⟩
  · cases h
def pickD (p : List Oper → Bool) (d1 d2 : Drw) : Drw := fun nt ops s h kl K => match p ops with
  | true => d1 nt ops s h kl K
  | false => d2 nt ops s h kl K
theorem pickD_ok {P : Program} {p : List Oper → Bool} {d1 d2 : Drw} (h1 : DrwOk P d1) (h2 : DrwOk P d2) : DrwOk P (pickD p d1 d2) := fun w0 M0 β0 cp0 h0 nt id ops s h kl a w K Q hv hst hQ => by
  unfold pickD at hv
  split at hv
  · exact h1 w0 M0 β0 cp0 h0 nt id ops s h kl a w K Q hv hst hQ
  · exact h2 w0 M0 β0 cp0 h0 nt id ops s h kl a w K Q hv hst hQ
def psO (n : Th Nat) (ps : Th (List Part)) : AObj := .nst 45 6 n (fun i => [.c (.sl 3 (fun _ => ((ps ()).getD (i ()) Dat.d0).code.length) fun j => Dat.enc fun _ => ((ps ()).getD (i ()) Dat.d0).code.getD (j ()) Dat.d0), .c (.i .i64 fun _ => ((ps ()).getD (i ()) Dat.d0).vm.at_),
  .c (.sl 1 (fun _ => ((ps ()).getD (i ()) Dat.d0).vm.regs.length) fun j => Dat.enc fun _ => ((ps ()).getD (i ()) Dat.d0).vm.regs.getD (j ()) Dat.d0), .c (.b fun _ => ((ps ()).getD (i ()) Dat.d0).vm.halts), .c (.b fun _ => ((ps ()).getD (i ()) Dat.d0).vm.fault),
  .sl 3 1 (fun _ => ((ps ()).getD (i ()) Dat.d0).box.length) fun j => Dat.enc fun _ => ((ps ()).getD (i ()) Dat.d0).box.getD (j ()) Dat.d0]) none
def mdA (b : Nat) (m : Th Module) : List AV := [.i .i64 fun _ => (m ()).table.frame, .sl 3 (fun _ => (m ()).table.windows.length) fun i => Dat.enc fun _ => (m ()).table.windows.getD (i ()) Dat.d0, .own b fun _ => (m ()).parts.length,
  .sl 3 (fun _ => (m ()).wires.length) fun i => Dat.enc fun _ => (m ()).wires.getD (i ()) Dat.d0, .i .i64 fun _ => (m ()).now, .i .i64 fun _ => (m ()).lost]
theorem bif_k {α : Type} (f : Nat → α) {i k : Nat} (h : i < k + 1) : (bif decide (k ≤ i) then f k else f i) = f i := by
  by_cases h2 : k ≤ i
  · have : i = k := by omega
    subst this
    rw [decide_eq_true h2, cond_true]
  · rw [decide_eq_false h2, cond_false]
structure OnX (ps : List Part) where
  k : Nat
  hk : k ≤ ps.length
set_option maxRecDepth 100000 in
set_option maxHeartbeats 4000000 in
theorem own_vc (m : Module) (hm : mchkV m = 0) :
    FnOk Try.prog 38 [.agg (Dat.enc fun _ => m)] [] (outLe 0 (.agg (mdA 2 fun _ => m)) [.dead, .dead, psO (fun _ => m.parts.length) fun _ => m.parts] []) := by
  generalize hK : outLe 0 (.agg (mdA 2 fun _ => m)) [.dead, .dead, psO (fun _ => m.parts.length) fun _ => m.parts] [] = K
  have M := mchk_iff.1 hm
  have T := wchk_iff.1 M.t
  refine fn_ok envOk zl cOwn_ok (pickD_ok (p := fun ops => Nat.beq (len ops) 17) (eagOrd_ok envOk zl cOwn_ok mixed) (drawsN_ok envOk zl dOwn_ok mixed)) (keep := [0, 1, 2, 3, 5, 21, 22, 23, 24]) Try.func38 rfl ?_
  cbv
  repeat' first | (show Stp _; exfalso; first | omega | (exact h ‹_›) | (exact absurd ‹_› h) | (exact Bool.false_ne_true (h.symm.trans (show _ = true by assumption)))) | (refine Stp.mk ?_; cbv) | (refine Gen.mk fun r hr => ?_; (try simp only [Dat.ok, Dat.dec, Leaf.ok, Leaf.val, Z0, Z1, Z2, Z3, Z4, Z5, Z6, Z7, val_sl, val_nil] at hr); cbv) | exact trivial | rfl | refine Both.mk ?_ ?_ | (refine Imp.mk fun h => ?_; (try dsimp only at h); (try simp only [nc, Int.toNat_natCast, ne_eq, zz] at h); (try simp only [nc] at h)) | refine Ob.mk ?_ ?_ | refine Chk.mk (by kernel_rfl) ?_ | refine Eq'.mk ?_ | (refine AllN.mk fun i hi => ?_; cbv) | (refine AllC.mk fun c hc hcm => ?_; (try dsimp only at hc); cbv) | (refine AllS.mk fun r hr => ?_; (try simp only [Dat.ok, Dat.dec, Leaf.ok, Leaf.val, Z0, Z1, Z2, Z3, Z4, Z5, Z6, Z7, val_sl] at hr); cbv)
  all_goals ((try dsimp only at *); (try simp only [nc, Int.toNat_natCast, ne_eq, zz] at *); (try simp only [nc] at *))
  all_goals try simp only [Dat.dec, Leaf.val, Z0, Z1, Z2, Z3, Z4, Z5, Z6, Z7, val_sl] at *
  all_goals try first
    | exact ⟨⟨rfl, fun i _ => Dat.hok _⟩, by show (_ : Nat) ≤ _; have := T.len; have := M.lw; omega⟩
    | (have := M.lp; exact ⟨by omega, by omega, by omega, by omega⟩)
  have lp := M.lp
  refine LoopVC.frame [3, 5, 23, 24] (OnX m.parts) (fun x => [(23, .i .i64 fun _ => x.k), (3, .own 2 fun _ => x.k)]) (fun x => [(2, psO (fun _ => x.k) fun _ => m.parts)]) [2] (fun x => m.parts.length - x.k)
    ⟨0, Nat.zero_le _⟩ rfl (fun _ => rfl) ?_ ?_ fun ⟨k, hk⟩ => ?_
  · cbv
    repeat' first | (refine Stp.mk ?_; cbv) | (refine Gen.mk fun r hr => ?_; (try simp only [Dat.ok, Dat.dec, Leaf.ok, Leaf.val, Z0, Z1, Z2, Z3, Z4, Z5, Z6, Z7, val_sl, val_nil] at hr); cbv) | exact trivial | rfl | refine Both.mk ?_ ?_ | (refine Imp.mk fun h => ?_; (try dsimp only at h); (try simp only [nc, Int.toNat_natCast, ne_eq, zz] at h); (try simp only [nc] at h)) | refine Ob.mk ?_ ?_ | refine Chk.mk (by kernel_rfl) ?_ | refine Eq'.mk ?_ | (refine AllN.mk fun i hi => ?_; cbv) | (refine AllC.mk fun c hc hcm => ?_; (try dsimp only at hc); cbv) | (refine AllS.mk fun r hr => ?_; (try simp only [Dat.ok, Dat.dec, Leaf.ok, Leaf.val, Z0, Z1, Z2, Z3, Z4, Z5, Z6, Z7, val_sl] at hr); cbv)
    all_goals fail
  · cbv
    repeat' first | (refine Stp.mk ?_; cbv) | (refine Gen.mk fun r hr => ?_; (try simp only [Dat.ok, Dat.dec, Leaf.ok, Leaf.val, Z0, Z1, Z2, Z3, Z4, Z5, Z6, Z7, val_sl, val_nil] at hr); cbv) | exact trivial | rfl | refine Both.mk ?_ ?_ | (refine Imp.mk fun h => ?_; (try dsimp only at h); (try simp only [nc, Int.toNat_natCast, ne_eq, zz] at h); (try simp only [nc] at h)) | refine Ob.mk ?_ ?_ | refine Chk.mk (by kernel_rfl) ?_ | refine Eq'.mk ?_ | (refine AllN.mk fun i hi => ?_; cbv) | (refine AllC.mk fun c hc hcm => ?_; (try dsimp only at hc); cbv) | (refine AllS.mk fun r hr => ?_; (try simp only [Dat.ok, Dat.dec, Leaf.ok, Leaf.val, Z0, Z1, Z2, Z3, Z4, Z5, Z6, Z7, val_sl] at hr); cbv)
    all_goals fail
  have P := fun (hk2 : k < m.parts.length) => prt_iff.1 (M.p (m.parts.getD k Dat.d0) (by rw [List.getD_eq_getElem?_getD, List.getElem?_eq_getElem hk2]; exact List.getElem_mem hk2))
  have e9 : ∀ i, i < k + 1 → k ≤ i → m.parts.getD i Dat.d0 = m.parts.getD k Dat.d0 := fun i h1 h2 => by rw [show i = k by omega]
  cbv
  repeat' first | (show Stp _; exfalso; first | omega | (exact h ‹_›) | (exact absurd ‹_› h) | (exact Bool.false_ne_true (h.symm.trans (show _ = true by assumption)))) | (refine Stp.mk ?_; cbv) | (refine Gen.mk fun r hr => ?_; (try simp only [Dat.ok, Dat.dec, Leaf.ok, Leaf.val, Z0, Z1, Z2, Z3, Z4, Z5, Z6, Z7, val_sl, val_nil] at hr); cbv) | exact trivial | rfl | refine Both.mk ?_ ?_ | (refine Imp.mk fun h => ?_; (try dsimp only at h); (try simp only [nc, Int.toNat_natCast, ne_eq, zz] at h); (try simp only [nc] at h)) | refine Ob.mk ?_ ?_ | refine Chk.mk (by kernel_rfl) ?_ | refine Eq'.mk ?_ | (refine AllN.mk fun i hi => ?_; cbv) | (refine AllC.mk fun c hc hcm => ?_; (try dsimp only at hc); cbv) | (refine AllS.mk fun r hr => ?_; (try simp only [Dat.ok, Dat.dec, Leaf.ok, Leaf.val, Z0, Z1, Z2, Z3, Z4, Z5, Z6, Z7, val_sl] at hr); cbv)
  all_goals ((try dsimp only at *); (try simp only [nc, Int.toNat_natCast, ne_eq, zz] at *); (try simp only [nc] at *))
  all_goals try first
    | omega
    | exact ⟨by omega, by omega⟩
  all_goals try (refine EitC.l ?_; cbv)
  repeat' first | (refine Stp.mk ?_; cbv) | (refine Gen.mk fun r hr => ?_; (try simp only [Dat.ok, Dat.dec, Leaf.ok, Leaf.val, Z0, Z1, Z2, Z3, Z4, Z5, Z6, Z7, val_sl, val_nil] at hr); cbv) | exact trivial | rfl | refine Both.mk ?_ ?_ | (refine Imp.mk fun h => ?_; (try dsimp only at h); (try simp only [nc, Int.toNat_natCast, ne_eq, zz] at h); (try simp only [nc] at h)) | refine Ob.mk ?_ ?_ | refine Chk.mk (by kernel_rfl) ?_ | refine Eq'.mk ?_ | (refine AllN.mk fun i hi => ?_; cbv) | (refine AllC.mk fun c hc hcm => ?_; (try dsimp only at hc); cbv) | (refine AllS.mk fun r hr => ?_; (try simp only [Dat.ok, Dat.dec, Leaf.ok, Leaf.val, Z0, Z1, Z2, Z3, Z4, Z5, Z6, Z7, val_sl] at hr); cbv)
  all_goals try (refine EitC.r ?_; cbv)
  repeat' first | (refine Stp.mk ?_; cbv) | (refine Gen.mk fun r hr => ?_; (try simp only [Dat.ok, Dat.dec, Leaf.ok, Leaf.val, Z0, Z1, Z2, Z3, Z4, Z5, Z6, Z7, val_sl, val_nil] at hr); cbv) | exact trivial | rfl | refine Both.mk ?_ ?_ | (refine Imp.mk fun h => ?_; (try dsimp only at h); (try simp only [nc, Int.toNat_natCast, ne_eq, zz] at h); (try simp only [nc] at h)) | refine Ob.mk ?_ ?_ | refine Chk.mk (by kernel_rfl) ?_ | refine Eq'.mk ?_ | (refine AllN.mk fun i hi => ?_; cbv) | (refine AllC.mk fun c hc hcm => ?_; (try dsimp only at hc); cbv) | (refine AllS.mk fun r hr => ?_; (try simp only [Dat.ok, Dat.dec, Leaf.ok, Leaf.val, Z0, Z1, Z2, Z3, Z4, Z5, Z6, Z7, val_sl] at hr); cbv)
  all_goals ((try dsimp only at *); (try simp only [nc, Int.toNat_natCast, ne_eq, zz] at *); (try simp only [nc] at *))
  all_goals try simp only [Dat.dec, Leaf.val, Z0, Z1, Z2, Z3, Z4, Z5, Z6, Z7, val_sl] at *
  all_goals try rw [nc] at *
  all_goals try first
    | omega
    | (unfold InR; omega)
    | exact ⟨by omega, by omega⟩
    | exact ⟨trivial, rfl, by omega, by omega⟩
    | exact ⟨trivial, trivial, by omega, by omega⟩
    | exact ⟨⟨rfl, fun i _ => Dat.hok _⟩, by show (_ : Nat) ≤ _; have := check_len (P (by omega)).c; omega⟩
    | exact ⟨⟨rfl, fun i _ => Dat.hok _⟩, by show (_ : Nat) ≤ _; have := (P (by omega)).l; omega⟩
    | exact ⟨⟨rfl, fun i _ => Dat.hok _⟩, by show (_ : Nat) ≤ _; have := (rightV_ok (P (by omega)).v).2.1; omega⟩
    | (refine ⟨⟨k + 1, by omega⟩, ?_, ?_, rfl, by (try dsimp only); omega⟩
       · cbv
         repeat' first | (refine Stp.mk ?_; cbv) | (refine Gen.mk fun r hr => ?_; (try simp only [Dat.ok, Dat.dec, Leaf.ok, Leaf.val, Z0, Z1, Z2, Z3, Z4, Z5, Z6, Z7, val_sl, val_nil] at hr); cbv) | exact trivial | rfl | refine Both.mk ?_ ?_ | (refine Imp.mk fun h => ?_; (try dsimp only at h); (try simp only [nc, Int.toNat_natCast, ne_eq, zz] at h); (try simp only [nc] at h)) | refine Ob.mk ?_ ?_ | refine Chk.mk (by kernel_rfl) ?_ | refine Eq'.mk ?_ | (refine AllN.mk fun i hi => ?_; cbv) | (refine AllC.mk fun c hc hcm => ?_; (try dsimp only at hc); cbv) | (refine AllS.mk fun r hr => ?_; (try simp only [Dat.ok, Dat.dec, Leaf.ok, Leaf.val, Z0, Z1, Z2, Z3, Z4, Z5, Z6, Z7, val_sl] at hr); cbv)
       · cbv
         repeat' first | (refine Stp.mk ?_; cbv) | (refine Gen.mk fun r hr => ?_; (try simp only [Dat.ok, Dat.dec, Leaf.ok, Leaf.val, Z0, Z1, Z2, Z3, Z4, Z5, Z6, Z7, val_sl, val_nil] at hr); cbv) | exact trivial | rfl | refine Both.mk ?_ ?_ | (refine Imp.mk fun h => ?_; (try dsimp only at h); (try simp only [nc, Int.toNat_natCast, ne_eq, zz] at h); (try simp only [nc] at h)) | refine Ob.mk ?_ ?_ | refine Chk.mk (by kernel_rfl) ?_ | refine Eq'.mk ?_ | (refine AllN.mk fun i hi => ?_; cbv) | (refine AllC.mk fun c hc hcm => ?_; (try dsimp only at hc); cbv) | (refine AllS.mk fun r hr => ?_; (try simp only [Dat.ok, Dat.dec, Leaf.ok, Leaf.val, Z0, Z1, Z2, Z3, Z4, Z5, Z6, Z7, val_sl] at hr); cbv)
         all_goals ((try dsimp only at *); (try simp only [nc, Int.toNat_natCast, ne_eq, zz] at *); (try simp only [nc] at *))
         all_goals first
           | rfl
           | omega
           | exact bif_k (fun i => (m.parts.getD i Dat.d0).vm.at_) (by assumption)
           | exact bif_k (fun i => (m.parts.getD i Dat.d0).vm.halts) (by assumption)
           | exact bif_k (fun i => (m.parts.getD i Dat.d0).vm.fault) (by assumption)
           | exact bif_k (fun i => (m.parts.getD i Dat.d0).box.length) (by assumption)
           | exact congrArg (fun (w : Part) => w.code.length) (e9 _ (by assumption) (by assumption)).symm
           | exact congrArg (fun (w : Part) => (w.code.getD _ Dat.d0).code) (e9 _ (by assumption) (by assumption)).symm
           | exact congrArg (fun (w : Part) => (w.code.getD _ Dat.d0).a) (e9 _ (by assumption) (by assumption)).symm
           | exact congrArg (fun (w : Part) => (w.code.getD _ Dat.d0).b) (e9 _ (by assumption) (by assumption)).symm
           | exact congrArg (fun (w : Part) => w.vm.regs.length) (e9 _ (by assumption) (by assumption)).symm
           | exact congrArg (fun (w : Part) => w.vm.regs.getD _ Dat.d0) (e9 _ (by assumption) (by assumption)).symm
           | (have hr9 : r = (m.parts.getD k Dat.d0).box := by assumption
              subst hr9
              first
                | exact bif_k (fun i => (m.parts.getD i Dat.d0).box.length) (by assumption)
                | exact bif_k (fun i => (m.parts.getD i Dat.d0).box.getD _ Dat.d0) (by assumption))
           | fail)
  have ek : k = m.parts.length := by omega
  subst ek
  subst hK
  cbv
  repeat' first | (refine Stp.mk ?_; cbv) | (refine Gen.mk fun r hr => ?_; (try simp only [Dat.ok, Dat.dec, Leaf.ok, Leaf.val, Z0, Z1, Z2, Z3, Z4, Z5, Z6, Z7, val_sl, val_nil] at hr); cbv) | exact trivial | rfl | refine Both.mk ?_ ?_ | (refine Imp.mk fun h => ?_; (try dsimp only at h); (try simp only [nc, Int.toNat_natCast, ne_eq, zz] at h); (try simp only [nc] at h)) | refine Ob.mk ?_ ?_ | refine Chk.mk (by kernel_rfl) ?_ | refine Eq'.mk ?_ | (refine AllN.mk fun i hi => ?_; cbv) | (refine AllC.mk fun c hc hcm => ?_; (try dsimp only at hc); cbv) | (refine AllS.mk fun r hr => ?_; (try simp only [Dat.ok, Dat.dec, Leaf.ok, Leaf.val, Z0, Z1, Z2, Z3, Z4, Z5, Z6, Z7, val_sl] at hr); cbv)
inductive OwnP (A : List AV) (PK : AV → Hp → Prop) : Prop where
  | mk (m : Module) (h1 : mchkV m = 0) (h2 : leL 0 A [.agg (Dat.enc fun _ => m)]) (h3 : PK (.agg (mdA 2 fun _ => m)) [.dead, .dead, psO (fun _ => m.parts.length) fun _ => m.parts])
theorem ownP_ok : PcOk Try.prog 38 OwnP := fun A PK h => by
  obtain ⟨m, h1, h2, h3⟩ := h
  exact FnOk.pre (FnOk.le (own_vc m h1) rfl h3) h2
noncomputable def ownPC_K : Con := pureCon OwnP
theorem ownPC_ok {A : List AV} {H : Hp} {K : Kont} (hv : ownPC_K A H K) : FnOk Try.prog 38 A H K := pureCon_ok ownP_ok hv

end Go.Proofs.Ytbnpacdkllmblaa
