/- parts.Check: walked. -/
import Derived.Test.YtbnpacdkllmblaaPartQ
set_option linter.all false
namespace Go.Proofs.Ytbnpacdkllmblaa
open Go Go.Abs

def wide1_R (r : Th (Bool)) : AV := .b fun _ => (r ())
def wide1_S (n : Int) : Bool := !numB n
def wide1_D : Det := fun A => match A with
  | [.i .i64 n] => some (fun _ => True, wide1_R fun _ => wide1_S (n ()))
  | _ => none
set_option maxRecDepth 100000 in
set_option maxHeartbeats 4000000 in
theorem wide1_vc (n : Int) : FnOk Try.prog 50 [.i .i64 fun _ => n] [] (outA (wide1_R fun _ => wide1_S n) []) := by
  refine fn_ok envOk zl noCon_ok noDraws_ok (keep := [0, 2]) Try.func50 rfl ?_
  cbv
  repeat' first | (show Stp _; exfalso; first | omega | (exact h ‹_›) | (exact absurd ‹_› h) | (exact Bool.false_ne_true (h.symm.trans (show _ = true by assumption)))) | (refine Stp.mk ?_; cbv) | (refine Gen.mk fun r hr => ?_; (try simp only [Dat.ok, Dat.dec, Leaf.ok, Leaf.val, Z0, Z1, Z2, Z3, Z4, Z5, Z6, Z7, val_sl, val_nil] at hr); cbv) | exact trivial | rfl | refine Both.mk ?_ ?_ | (refine Imp.mk fun h => ?_; (try dsimp only at h); (try simp only [nc, Int.toNat_natCast, ne_eq, zz] at h); (try simp only [nc] at h)) | refine Ob.mk ?_ ?_ | refine Chk.mk (by kernel_rfl) ?_ | refine Eq'.mk ?_ | (refine AllN.mk fun i hi => ?_; cbv) | (refine AllC.mk fun c hc hcm => ?_; (try dsimp only at hc); cbv) | (refine AllS.mk fun r hr => ?_; (try simp only [Dat.ok, Dat.dec, Leaf.ok, Leaf.val, Z0, Z1, Z2, Z3, Z4, Z5, Z6, Z7, val_sl] at hr); cbv)
  all_goals ((try dsimp only at *); (try simp only [nc, Int.toNat_natCast, ne_eq, zz] at *); (try simp only [nc] at *))
  all_goals first | rfl | fail
theorem wide1_ok : PcOk Try.prog 50 (detPC wide1_D) := det_okA fun A p r h hp0 => by
  unfold wide1_D at h
  split at h
  · rename_i n
    cases h
    exact ⟨rfl, FnOk.pre (A' := [.i .i64 fun _ => n ()]) (wide1_vc (n ())) (.mk (.mk (.mk rfl) (.mk rfl)) (trivial))⟩
  · cases h
def pinC_R (r : Th (Bool)) : AV := .b fun _ => (r ())
def pinC_P (m : Module) (i : Int) : Prop := m.parts.length ≤ 9223372036854775807
def pinC_D : Det := fun A => match A with
  | [.agg m, .i .i64 i] => some (fun _ => Dat.ok Module m ∧ pinC_P (Dat.dec m) (i ()), pinC_R fun _ => partB (Dat.dec m) (i ()))
  | _ => none
set_option maxRecDepth 100000 in
set_option maxHeartbeats 4000000 in
theorem pinC_vc (m : Module) (i : Int) (hp : pinC_P m i) : FnOk Try.prog 37 [.agg (Dat.enc fun _ => m), .i .i64 fun _ => i] [] (outA (pinC_R fun _ => partB m i) []) := by
  refine fn_ok envOk zl noCon_ok noDraws_ok (keep := [0, 1, 2, 4]) Try.func37 rfl ?_
  cbv
  repeat' first | (show Stp _; exfalso; first | omega | (exact h ‹_›) | (exact absurd ‹_› h) | (exact Bool.false_ne_true (h.symm.trans (show _ = true by assumption)))) | (refine Stp.mk ?_; cbv) | (refine Gen.mk fun r hr => ?_; (try simp only [Dat.ok, Dat.dec, Leaf.ok, Leaf.val, Z0, Z1, Z2, Z3, Z4, Z5, Z6, Z7, val_sl, val_nil] at hr); cbv) | exact trivial | rfl | refine Both.mk ?_ ?_ | (refine Imp.mk fun h => ?_; (try dsimp only at h); (try simp only [nc, Int.toNat_natCast, ne_eq, zz] at h); (try simp only [nc] at h)) | refine Ob.mk ?_ ?_ | refine Chk.mk (by kernel_rfl) ?_ | refine Eq'.mk ?_ | (refine AllN.mk fun i hi => ?_; cbv) | (refine AllC.mk fun c hc hcm => ?_; (try dsimp only at hc); cbv) | (refine AllS.mk fun r hr => ?_; (try simp only [Dat.ok, Dat.dec, Leaf.ok, Leaf.val, Z0, Z1, Z2, Z3, Z4, Z5, Z6, Z7, val_sl] at hr); cbv)
  all_goals ((try dsimp only at *); (try simp only [nc, Int.toNat_natCast, ne_eq, zz] at *); (try simp only [nc] at *))
  all_goals first
    | (show decide (i < (m.parts.length : Int)) = decide (0 ≤ i ∧ i < m.parts.length); exact decide_eq_decide.2 ⟨fun h => ⟨by assumption, h⟩, fun h => h.2⟩)
    | (show false = decide (0 ≤ i ∧ i < m.parts.length); exact (decide_eq_false (by omega)).symm)
    | fail
theorem pinC_ok : PcOk Try.prog 37 (detPC pinC_D) := det_okA fun A p r h hp0 => by
  unfold pinC_D at h
  split at h
  · rename_i m i
    cases h
    obtain ⟨g0, hp⟩ := hp0
    exact ⟨rfl, FnOk.pre (A' := [.agg (Dat.enc fun _ => (Dat.dec m : Module)), .i .i64 fun _ => i ()]) (pinC_vc (Dat.dec m) (i ()) hp) (.mk (Dat.hle _ g0) (.mk (.mk (.mk rfl) (.mk rfl)) (trivial)))⟩
  · cases h
noncomputable def cPw0 : FuncId → Con := fun f => match f with
  | 50 => pureCon (detPC wide1_D)
  | _ => fun _ _ _ => Bad 1001
theorem cPw0_ok : ConOk Try.prog cPw0 := fun f A H K h => by
  unfold cPw0 at h
  split at h
  · exact ⟨⟨Try.f50, Try.func50, by kernel_rfl, by kernel_rfl⟩, pureCon_ok wide1_ok h⟩
  · cases h
noncomputable def cPw1 : FuncId → Con := fun f => match f with
  | 57 => inlCon E cPw0 noDraws [0, 1, 4, 5, 7, 8, 9, 16] Try.f57
  | _ => fun _ _ _ => Bad 1001
theorem cPw1_ok : ConOk Try.prog cPw1 := fun f A H K h => by
  unfold cPw1 at h
  split at h
  · exact ⟨⟨Try.f57, Try.func57, by kernel_rfl, by kernel_rfl⟩, inl_ok envOk zl cPw0_ok noDraws_ok Try.func57 h⟩
  · cases h
noncomputable def cPw2 : FuncId → Con := fun f => match f with
  | 49 => inlCon E cPw1 noDraws [0, 1, 4] Try.f49
  | _ => fun _ _ _ => Bad 1001
theorem cPw2_ok : ConOk Try.prog cPw2 := fun f A H K h => by
  unfold cPw2 at h
  split at h
  · exact ⟨⟨Try.f49, Try.func49, by kernel_rfl, by kernel_rfl⟩, inl_ok envOk zl cPw1_ok noDraws_ok Try.func49 h⟩
  · cases h
def wideC_R (r : Th (Bool)) : AV := .b fun _ => (r ())
def wideC_P (l : (List Int)) : Prop := l.length ≤ 9223372036854775807
def wideC_D : Det := fun A => match A with
  | [l] => some (fun _ => Leaf.ok (List Int) l ∧ wideC_P (Leaf.val l), wideC_R fun _ => wideB (Leaf.val l))
  | _ => none
set_option maxRecDepth 100000 in
set_option maxHeartbeats 4000000 in
theorem wideC_vc (l : (List Int)) (hp : wideC_P l) : FnOk Try.prog 40 [Leaf.av fun _ => l] [] (outA (wideC_R fun _ => wideB l) []) := by
  refine fn_ok envOk zl cPw2_ok noDraws_ok (keep := [0, 2]) Try.func40 rfl ?_
  have hp' : l.length ≤ 9223372036854775807 := hp
  have fin : ∀ (e : Bool) H kl, wideB l = e → outA (wideC_R fun _ => wideB l) [] (.b fun _ => e) H kl := fun e H kl h => by
    rw [h]
    cbv
    repeat' first | (refine Stp.mk ?_; cbv) | (refine Gen.mk fun r hr => ?_; (try simp only [Dat.ok, Dat.dec, Leaf.ok, Leaf.val, Z0, Z1, Z2, Z3, Z4, Z5, Z6, Z7, val_sl, val_nil] at hr); cbv) | exact trivial | rfl | refine Both.mk ?_ ?_ | (refine Imp.mk fun h => ?_; (try dsimp only at h); (try simp only [nc, Int.toNat_natCast, ne_eq, zz] at h); (try simp only [nc] at h)) | refine Ob.mk ?_ ?_ | refine Chk.mk (by kernel_rfl) ?_ | refine Eq'.mk ?_ | (refine AllN.mk fun i hi => ?_; cbv) | (refine AllC.mk fun c hc hcm => ?_; (try dsimp only at hc); cbv) | (refine AllS.mk fun r hr => ?_; (try simp only [Dat.ok, Dat.dec, Leaf.ok, Leaf.val, Z0, Z1, Z2, Z3, Z4, Z5, Z6, Z7, val_sl] at hr); cbv)
  have fin0 : ∀ (e : Bool) H kl, wideB l = e → outA (wideC_R fun _ => wideB l) [] (.bc e) H kl := fun e H kl h => by
    rw [h]
    cbv
    repeat' first | (refine Stp.mk ?_; cbv) | (refine Gen.mk fun r hr => ?_; (try simp only [Dat.ok, Dat.dec, Leaf.ok, Leaf.val, Z0, Z1, Z2, Z3, Z4, Z5, Z6, Z7, val_sl, val_nil] at hr); cbv) | exact trivial | rfl | refine Both.mk ?_ ?_ | (refine Imp.mk fun h => ?_; (try dsimp only at h); (try simp only [nc, Int.toNat_natCast, ne_eq, zz] at h); (try simp only [nc] at h)) | refine Ob.mk ?_ ?_ | refine Chk.mk (by kernel_rfl) ?_ | refine Eq'.mk ?_ | (refine AllN.mk fun i hi => ?_; cbv) | (refine AllC.mk fun c hc hcm => ?_; (try dsimp only at hc); cbv) | (refine AllS.mk fun r hr => ?_; (try simp only [Dat.ok, Dat.dec, Leaf.ok, Leaf.val, Z0, Z1, Z2, Z3, Z4, Z5, Z6, Z7, val_sl] at hr); cbv)
  generalize outA (wideC_R fun _ => wideB l) [] = K at fin fin0
  cbv
  repeat' first | (show Stp _; exfalso; first | omega | (exact h ‹_›) | (exact absurd ‹_› h) | (exact Bool.false_ne_true (h.symm.trans (show _ = true by assumption)))) | (refine Stp.mk ?_; cbv) | (refine Gen.mk fun r hr => ?_; (try simp only [Dat.ok, Dat.dec, Leaf.ok, Leaf.val, Z0, Z1, Z2, Z3, Z4, Z5, Z6, Z7, val_sl, val_nil] at hr); cbv) | exact trivial | rfl | refine Both.mk ?_ ?_ | (refine Imp.mk fun h => ?_; (try dsimp only at h); (try simp only [nc, Int.toNat_natCast, ne_eq, zz] at h); (try simp only [nc] at h)) | refine Ob.mk ?_ ?_ | refine Chk.mk (by kernel_rfl) ?_ | refine Eq'.mk ?_ | (refine AllN.mk fun i hi => ?_; cbv) | (refine AllC.mk fun c hc hcm => ?_; (try dsimp only at hc); cbv) | (refine AllS.mk fun r hr => ?_; (try simp only [Dat.ok, Dat.dec, Leaf.ok, Leaf.val, Z0, Z1, Z2, Z3, Z4, Z5, Z6, Z7, val_sl] at hr); cbv)
  all_goals ((try dsimp only at *); (try simp only [nc, Int.toNat_natCast, ne_eq, zz] at *); (try simp only [nc] at *))
  refine LoopVC.frame [4, 5, 8, 9, 16] (AnyI l) (fun x => [(8, .i .i64 fun _ => x.k)]) (fun _ => []) [] (fun x => l.length - x.k) ⟨0, Nat.zero_le _, by simp⟩ rfl (fun _ => rfl) ?_ ?_ fun ⟨k, hk, hr⟩ => ?_
  iterate 2
    · cbv
      repeat' first | (refine Stp.mk ?_; cbv) | (refine Gen.mk fun r hr => ?_; (try simp only [Dat.ok, Dat.dec, Leaf.ok, Leaf.val, Z0, Z1, Z2, Z3, Z4, Z5, Z6, Z7, val_sl, val_nil] at hr); cbv) | exact trivial | rfl | refine Both.mk ?_ ?_ | (refine Imp.mk fun h => ?_; (try dsimp only at h); (try simp only [nc, Int.toNat_natCast, ne_eq, zz] at h); (try simp only [nc] at h)) | refine Ob.mk ?_ ?_ | refine Chk.mk (by kernel_rfl) ?_ | refine Eq'.mk ?_ | (refine AllN.mk fun i hi => ?_; cbv) | (refine AllC.mk fun c hc hcm => ?_; (try dsimp only at hc); cbv) | (refine AllS.mk fun r hr => ?_; (try simp only [Dat.ok, Dat.dec, Leaf.ok, Leaf.val, Z0, Z1, Z2, Z3, Z4, Z5, Z6, Z7, val_sl] at hr); cbv)
  cbv
  repeat' first | (show Stp _; exfalso; first | omega | (exact h ‹_›) | (exact absurd ‹_› h) | (exact Bool.false_ne_true (h.symm.trans (show _ = true by assumption)))) | (refine Stp.mk ?_; cbv) | (refine Gen.mk fun r hr => ?_; (try simp only [Dat.ok, Dat.dec, Leaf.ok, Leaf.val, Z0, Z1, Z2, Z3, Z4, Z5, Z6, Z7, val_sl, val_nil] at hr); cbv) | exact trivial | rfl | refine Both.mk ?_ ?_ | (refine Imp.mk fun h => ?_; (try dsimp only at h); (try simp only [nc, Int.toNat_natCast, ne_eq, zz] at h); (try simp only [nc] at h)) | refine Ob.mk ?_ ?_ | refine Chk.mk (by kernel_rfl) ?_ | refine Eq'.mk ?_ | (refine AllN.mk fun i hi => ?_; cbv) | (refine AllC.mk fun c hc hcm => ?_; (try dsimp only at hc); cbv) | (refine AllS.mk fun r hr => ?_; (try simp only [Dat.ok, Dat.dec, Leaf.ok, Leaf.val, Z0, Z1, Z2, Z3, Z4, Z5, Z6, Z7, val_sl] at hr); cbv)
  all_goals ((try dsimp only at *); (try simp only [nc, Int.toNat_natCast, ne_eq, zz] at *); (try simp only [nc] at *))
  all_goals first
    | omega
    | (unfold InR; omega)
    | (have hb0 : wide1_S (l.getD k Dat.d0) = true := by assumption
       have hb : numB (l.getD k Dat.d0) = false := by simpa [wide1_S] using hb0
       have e : wideB l = true := by unfold wideB; rw [hr, drop_cons Dat.d0 (by omega), List.any_cons, hb]; rfl
       first
         | exact fin0 _ _ _ e
         | (refine fin _ _ _ ?_
            rw [e]
            first | rfl | (exact (decide_eq_true (by omega)).symm)))
    | (have e : wideB l = false := by unfold wideB; rw [hr, drop_nil (by omega)]; rfl
       first
         | exact fin0 _ _ _ e
         | (refine fin _ _ _ ?_
            rw [e]
            first | rfl | (exact (decide_eq_false (by omega)).symm)))
    | (have hb0 : wide1_S (l.getD k Dat.d0) = false := by assumption
       have hb : numB (l.getD k Dat.d0) = true := by simpa [wide1_S] using hb0
       refine ⟨⟨k + 1, by omega, by rw [hr, drop_cons Dat.d0 (by omega), List.any_cons, hb]; rfl⟩, ?_, ?_, rfl, by (try dsimp only); omega⟩
       · cbv
         repeat' first | (refine Stp.mk ?_; cbv) | (refine Gen.mk fun r hr => ?_; (try simp only [Dat.ok, Dat.dec, Leaf.ok, Leaf.val, Z0, Z1, Z2, Z3, Z4, Z5, Z6, Z7, val_sl, val_nil] at hr); cbv) | exact trivial | rfl | refine Both.mk ?_ ?_ | (refine Imp.mk fun h => ?_; (try dsimp only at h); (try simp only [nc, Int.toNat_natCast, ne_eq, zz] at h); (try simp only [nc] at h)) | refine Ob.mk ?_ ?_ | refine Chk.mk (by kernel_rfl) ?_ | refine Eq'.mk ?_ | (refine AllN.mk fun i hi => ?_; cbv) | (refine AllC.mk fun c hc hcm => ?_; (try dsimp only at hc); cbv) | (refine AllS.mk fun r hr => ?_; (try simp only [Dat.ok, Dat.dec, Leaf.ok, Leaf.val, Z0, Z1, Z2, Z3, Z4, Z5, Z6, Z7, val_sl] at hr); cbv)
       · cbv
         repeat' first | (refine Stp.mk ?_; cbv) | (refine Gen.mk fun r hr => ?_; (try simp only [Dat.ok, Dat.dec, Leaf.ok, Leaf.val, Z0, Z1, Z2, Z3, Z4, Z5, Z6, Z7, val_sl, val_nil] at hr); cbv) | exact trivial | rfl | refine Both.mk ?_ ?_ | (refine Imp.mk fun h => ?_; (try dsimp only at h); (try simp only [nc, Int.toNat_natCast, ne_eq, zz] at h); (try simp only [nc] at h)) | refine Ob.mk ?_ ?_ | refine Chk.mk (by kernel_rfl) ?_ | refine Eq'.mk ?_ | (refine AllN.mk fun i hi => ?_; cbv) | (refine AllC.mk fun c hc hcm => ?_; (try dsimp only at hc); cbv) | (refine AllS.mk fun r hr => ?_; (try simp only [Dat.ok, Dat.dec, Leaf.ok, Leaf.val, Z0, Z1, Z2, Z3, Z4, Z5, Z6, Z7, val_sl] at hr); cbv))
    | fail
theorem wideC_ok : PcOk Try.prog 40 (detPC wideC_D) := det_okA fun A p r h hp0 => by
  unfold wideC_D at h
  split at h
  · rename_i l
    cases h
    obtain ⟨g0, hp⟩ := hp0
    exact ⟨rfl, FnOk.pre (A' := [Leaf.av fun _ => (Leaf.val l : (List Int))]) (wideC_vc (Leaf.val l) hp) (.mk (Leaf.hle _ g0) (trivial))⟩
  · cases h
noncomputable def cPr : FuncId → Con := fun f => match f with
  | 44 => pureCon (detPC checkC_D)
  | 45 => pureCon (detPC rightVC_D)
  | 40 => pureCon (detPC wideC_D)
  | _ => fun _ _ _ => Bad 1001
theorem cPr_ok : ConOk Try.prog cPr := fun f A H K h => by
  unfold cPr at h
  split at h
  · exact ⟨⟨Try.f44, Try.func44, by kernel_rfl, by kernel_rfl⟩, pureCon_ok checkC_ok h⟩
  · exact ⟨⟨Try.f45, Try.func45, by kernel_rfl, by kernel_rfl⟩, pureCon_ok rightVC_ok h⟩
  · exact ⟨⟨Try.f40, Try.func40, by kernel_rfl, by kernel_rfl⟩, pureCon_ok wideC_ok h⟩
  · cases h
def prtC_R (r : Th (Int)) : AV := .i .i64 fun _ => (r ())
def prtC_P (p : Part) : Prop := p.code.length ≤ 9223372036854775807 ∧ p.vm.regs.length ≤ 9223372036854775807 ∧ p.box.length ≤ 9223372036854775807
def prtC_D : Det := fun A => match A with
  | [.agg p] => some (fun _ => Dat.ok Part p ∧ prtC_P (Dat.dec p), prtC_R fun _ => prtV (Dat.dec p))
  | _ => none
set_option maxRecDepth 100000 in
set_option maxHeartbeats 4000000 in
theorem prtC_vc (p : Part) (hp : prtC_P p) : FnOk Try.prog 36 [.agg (Dat.enc fun _ => p)] [] (outA (prtC_R fun _ => prtV p) []) := by
  refine fn_ok envOk zl cPr_ok noDraws_ok (keep := [0, 1, 2, 3, 4, 9, 15, 17, 25, 30]) Try.func36 rfl ?_
  obtain ⟨p1, p2, p3⟩ : p.code.length ≤ 9223372036854775807 ∧ p.vm.regs.length ≤ 9223372036854775807 ∧ p.box.length ≤ 9223372036854775807 := hp
  have fin : ∀ (e : Int) H kl, prtV p = e → outA (prtC_R fun _ => prtV p) [] (.i .i64 fun _ => e) H kl := fun e H kl h => by
    rw [h]
    cbv
    repeat' first | (refine Stp.mk ?_; cbv) | (refine Gen.mk fun r hr => ?_; (try simp only [Dat.ok, Dat.dec, Leaf.ok, Leaf.val, Z0, Z1, Z2, Z3, Z4, Z5, Z6, Z7, val_sl, val_nil] at hr); cbv) | exact trivial | rfl | refine Both.mk ?_ ?_ | (refine Imp.mk fun h => ?_; (try dsimp only at h); (try simp only [nc, Int.toNat_natCast, ne_eq, zz] at h); (try simp only [nc] at h)) | refine Ob.mk ?_ ?_ | refine Chk.mk (by kernel_rfl) ?_ | refine Eq'.mk ?_ | (refine AllN.mk fun i hi => ?_; cbv) | (refine AllC.mk fun c hc hcm => ?_; (try dsimp only at hc); cbv) | (refine AllS.mk fun r hr => ?_; (try simp only [Dat.ok, Dat.dec, Leaf.ok, Leaf.val, Z0, Z1, Z2, Z3, Z4, Z5, Z6, Z7, val_sl] at hr); cbv)
  generalize outA (prtC_R fun _ => prtV p) [] = K at fin
  cbv
  repeat' first | (show Stp _; exfalso; first | omega | (exact h ‹_›) | (exact absurd ‹_› h) | (exact Bool.false_ne_true (h.symm.trans (show _ = true by assumption)))) | (refine Stp.mk ?_; cbv) | (refine Gen.mk fun r hr => ?_; (try simp only [Dat.ok, Dat.dec, Leaf.ok, Leaf.val, Z0, Z1, Z2, Z3, Z4, Z5, Z6, Z7, val_sl, val_nil] at hr); cbv) | exact trivial | rfl | refine Both.mk ?_ ?_ | (refine Imp.mk fun h => ?_; (try dsimp only at h); (try simp only [nc, Int.toNat_natCast, ne_eq, zz] at h); (try simp only [nc] at h)) | refine Ob.mk ?_ ?_ | refine Chk.mk (by kernel_rfl) ?_ | refine Eq'.mk ?_ | (refine AllN.mk fun i hi => ?_; cbv) | (refine AllC.mk fun c hc hcm => ?_; (try dsimp only at hc); cbv) | (refine AllS.mk fun r hr => ?_; (try simp only [Dat.ok, Dat.dec, Leaf.ok, Leaf.val, Z0, Z1, Z2, Z3, Z4, Z5, Z6, Z7, val_sl] at hr); cbv)
  all_goals ((try dsimp only at *); (try simp only [nc, Int.toNat_natCast, ne_eq, zz] at *); (try simp only [nc] at *))
  all_goals try simp only [Dat.dec, Leaf.val, Z0, Z1, Z2, Z3, Z4, Z5, Z6, Z7, val_sl] at *
  all_goals first
    | exact ⟨⟨rfl, fun i _ => Dat.hok _⟩, by assumption⟩
    | exact ⟨⟨trivial, ⟨rfl, fun i _ => Dat.hok _⟩, trivial, trivial⟩, by assumption⟩
    | (refine fin _ _ _ ?_
       unfold prtV
       first
         | (rw [if_pos (by assumption)]; done)
         | (rw [if_neg (fun q => q (by assumption)), if_pos (by assumption)]; done)
         | (rw [if_neg (fun q => q (by assumption)), if_neg (fun q => q (by assumption)), if_pos (by omega)]; done)
         | (rw [if_neg (fun q => q (by assumption)), if_neg (fun q => q (by assumption)), if_neg (by omega), if_pos (by omega)]; done)
         | (rw [if_neg (fun q => q (by assumption)), if_neg (fun q => q (by assumption)), if_neg (by omega), if_neg (by omega), if_pos (by assumption)]; done)
         | (rw [if_neg (fun q => q (by assumption)), if_neg (fun q => q (by assumption)), if_neg (by omega), if_neg (by omega), if_neg (by simp only [Bool.not_eq_true]; assumption)]; done))
    | fail
theorem prtC_ok : PcOk Try.prog 36 (detPC prtC_D) := det_okA fun A p r h hp0 => by
  unfold prtC_D at h
  split at h
  · rename_i p
    cases h
    obtain ⟨g0, hp⟩ := hp0
    exact ⟨rfl, FnOk.pre (A' := [.agg (Dat.enc fun _ => (Dat.dec p : Part))]) (prtC_vc (Dat.dec p) hp) (.mk (Dat.hle _ g0) (trivial))⟩
  · cases h
structure McX (m : Module) where
  k : Nat
  hk : k ≤ m.parts.length
  hr : prtsV m.parts = prtsV (m.parts.drop k)
structure MwX (m : Module) where
  k : Nat
  hk : k ≤ m.wires.length
  hr : m.wires.all (wirB m.parts.length) = (m.wires.drop k).all (wirB m.parts.length)
theorem prts_drop {l : List Part} {k : Nat} (hk : k < l.length) : prtsV (l.drop k) = if prtV (l.getD k Dat.d0) = 0 then prtsV (l.drop (k + 1)) else prtV (l.getD k Dat.d0) := by
  rw [drop_cons Dat.d0 hk, prtsV]
noncomputable def cMc : FuncId → Con := fun f => match f with
  | 34 => pureCon (detPC wchk_D)
  | 36 => pureCon (detPC prtC_D)
  | 37 => pureCon (detPC pinC_D)
  | _ => fun _ _ _ => Bad 1001
theorem cMc_ok : ConOk Try.prog cMc := fun f A H K h => by
  unfold cMc at h
  split at h
  · exact ⟨⟨Try.f34, Try.func34, by kernel_rfl, by kernel_rfl⟩, pureCon_ok wchk_ok h⟩
  · exact ⟨⟨Try.f36, Try.func36, by kernel_rfl, by kernel_rfl⟩, pureCon_ok prtC_ok h⟩
  · exact ⟨⟨Try.f37, Try.func37, by kernel_rfl, by kernel_rfl⟩, pureCon_ok pinC_ok h⟩
  · cases h
def mchkC_R (r : Th (Int)) : AV := .i .i64 fun _ => (r ())
def mchkC_P (m : Module) : Prop := m.table.windows.length ≤ 9223372036854775807 ∧ m.parts.length ≤ 9223372036854775807 ∧ m.wires.length ≤ 9223372036854775807 ∧ ∀ p ∈ m.parts, p.code.length ≤ 9223372036854775807 ∧ p.vm.regs.length ≤ 9223372036854775807 ∧ p.box.length ≤ 9223372036854775807
def mchkC_D : Det := fun A => match A with
  | [.agg m] => some (fun _ => Dat.ok Module m ∧ mchkC_P (Dat.dec m), mchkC_R fun _ => mchkV (Dat.dec m))
  | _ => none
set_option maxRecDepth 100000 in
set_option maxHeartbeats 4000000 in
theorem mchkC_vc (m : Module) (hp : mchkC_P m) : FnOk Try.prog 12 [.agg (Dat.enc fun _ => m)] [] (outA (mchkC_R fun _ => mchkV m) []) := by
  refine fn_ok envOk zl cMc_ok noDraws_ok (keep := [0, 1, 2, 3, 5, 6, 8, 13, 24, 26, 27, 28, 29, 35, 39, 40, 41, 42, 66, 85]) Try.func12 rfl ?_
  obtain ⟨p1, p2, p3, p4⟩ : m.table.windows.length ≤ 9223372036854775807 ∧ m.parts.length ≤ 9223372036854775807 ∧ m.wires.length ≤ 9223372036854775807 ∧ ∀ p ∈ m.parts, p.code.length ≤ 9223372036854775807 ∧ p.vm.regs.length ≤ 9223372036854775807 ∧ p.box.length ≤ 9223372036854775807 := hp
  have fin : ∀ (e : Int) H kl, mchkV m = e → outA (mchkC_R fun _ => mchkV m) [] (.i .i64 fun _ => e) H kl := fun e H kl h => by
    rw [h]
    cbv
    repeat' first | (refine Stp.mk ?_; cbv) | (refine Gen.mk fun r hr => ?_; (try simp only [Dat.ok, Dat.dec, Leaf.ok, Leaf.val, Z0, Z1, Z2, Z3, Z4, Z5, Z6, Z7, val_sl, val_nil] at hr); cbv) | exact trivial | rfl | refine Both.mk ?_ ?_ | (refine Imp.mk fun h => ?_; (try dsimp only at h); (try simp only [nc, Int.toNat_natCast, ne_eq, zz] at h); (try simp only [nc] at h)) | refine Ob.mk ?_ ?_ | refine Chk.mk (by kernel_rfl) ?_ | refine Eq'.mk ?_ | (refine AllN.mk fun i hi => ?_; cbv) | (refine AllC.mk fun c hc hcm => ?_; (try dsimp only at hc); cbv) | (refine AllS.mk fun r hr => ?_; (try simp only [Dat.ok, Dat.dec, Leaf.ok, Leaf.val, Z0, Z1, Z2, Z3, Z4, Z5, Z6, Z7, val_sl] at hr); cbv)
  generalize outA (mchkC_R fun _ => mchkV m) [] = K at fin
  cbv
  repeat' first | (show Stp _; exfalso; first | omega | (exact h ‹_›) | (exact absurd ‹_› h) | (exact Bool.false_ne_true (h.symm.trans (show _ = true by assumption)))) | (refine Stp.mk ?_; cbv) | (refine Gen.mk fun r hr => ?_; (try simp only [Dat.ok, Dat.dec, Leaf.ok, Leaf.val, Z0, Z1, Z2, Z3, Z4, Z5, Z6, Z7, val_sl, val_nil] at hr); cbv) | exact trivial | rfl | refine Both.mk ?_ ?_ | (refine Imp.mk fun h => ?_; (try dsimp only at h); (try simp only [nc, Int.toNat_natCast, ne_eq, zz] at h); (try simp only [nc] at h)) | refine Ob.mk ?_ ?_ | refine Chk.mk (by kernel_rfl) ?_ | refine Eq'.mk ?_ | (refine AllN.mk fun i hi => ?_; cbv) | (refine AllC.mk fun c hc hcm => ?_; (try dsimp only at hc); cbv) | (refine AllS.mk fun r hr => ?_; (try simp only [Dat.ok, Dat.dec, Leaf.ok, Leaf.val, Z0, Z1, Z2, Z3, Z4, Z5, Z6, Z7, val_sl] at hr); cbv)
  all_goals ((try dsimp only at *); (try simp only [nc, Int.toNat_natCast, ne_eq, zz] at *); (try simp only [nc] at *))
  all_goals try simp only [Dat.dec, Leaf.val, Z0, Z1, Z2, Z3, Z4, Z5, Z6, Z7, val_sl] at *
  all_goals first
    | exact ⟨⟨trivial, rfl, fun i _ => Dat.hok _⟩, p1⟩
    | (refine fin _ _ _ ?_
       rw [mchkV, if_pos (by assumption)]
       done)
    | (refine fin _ _ _ ?_
       rw [mchkV, if_neg (fun q => q (by assumption)), if_pos (by omega)]
       done)
    | skip
  have h1 : wchkV m.table = 0 := by assumption
  refine LoopVC.frame [2, 5, 6, 28, 29, 35] (McX m) (fun x => [(28, .i .i64 fun _ => x.k)]) (fun _ => []) [] (fun x => m.parts.length - x.k) ⟨0, Nat.zero_le _, by rw [List.drop_zero]⟩ rfl (fun _ => rfl) ?_ ?_ fun ⟨k, hk, hr⟩ => ?_
  iterate 2
    · cbv
      repeat' first | (refine Stp.mk ?_; cbv) | (refine Gen.mk fun r hr => ?_; (try simp only [Dat.ok, Dat.dec, Leaf.ok, Leaf.val, Z0, Z1, Z2, Z3, Z4, Z5, Z6, Z7, val_sl, val_nil] at hr); cbv) | exact trivial | rfl | refine Both.mk ?_ ?_ | (refine Imp.mk fun h => ?_; (try dsimp only at h); (try simp only [nc, Int.toNat_natCast, ne_eq, zz] at h); (try simp only [nc] at h)) | refine Ob.mk ?_ ?_ | refine Chk.mk (by kernel_rfl) ?_ | refine Eq'.mk ?_ | (refine AllN.mk fun i hi => ?_; cbv) | (refine AllC.mk fun c hc hcm => ?_; (try dsimp only at hc); cbv) | (refine AllS.mk fun r hr => ?_; (try simp only [Dat.ok, Dat.dec, Leaf.ok, Leaf.val, Z0, Z1, Z2, Z3, Z4, Z5, Z6, Z7, val_sl] at hr); cbv)
  have st := fun h => @prts_drop m.parts k h
  have p4 := fun (h : k < m.parts.length) => p4 _ (show m.parts.getD k Dat.d0 ∈ m.parts by rw [List.getD_eq_getElem?_getD, List.getElem?_eq_getElem h]; exact List.getElem_mem h)
  cbv
  repeat' first | (show Stp _; exfalso; first | omega | (exact h ‹_›) | (exact absurd ‹_› h) | (exact Bool.false_ne_true (h.symm.trans (show _ = true by assumption)))) | (refine Stp.mk ?_; cbv) | (refine Gen.mk fun r hr => ?_; (try simp only [Dat.ok, Dat.dec, Leaf.ok, Leaf.val, Z0, Z1, Z2, Z3, Z4, Z5, Z6, Z7, val_sl, val_nil] at hr); cbv) | exact trivial | rfl | refine Both.mk ?_ ?_ | (refine Imp.mk fun h => ?_; (try dsimp only at h); (try simp only [nc, Int.toNat_natCast, ne_eq, zz] at h); (try simp only [nc] at h)) | refine Ob.mk ?_ ?_ | refine Chk.mk (by kernel_rfl) ?_ | refine Eq'.mk ?_ | (refine AllN.mk fun i hi => ?_; cbv) | (refine AllC.mk fun c hc hcm => ?_; (try dsimp only at hc); cbv) | (refine AllS.mk fun r hr => ?_; (try simp only [Dat.ok, Dat.dec, Leaf.ok, Leaf.val, Z0, Z1, Z2, Z3, Z4, Z5, Z6, Z7, val_sl] at hr); cbv)
  all_goals ((try dsimp only at *); (try simp only [nc, Int.toNat_natCast, ne_eq, zz] at *); (try simp only [nc] at *))
  all_goals try rw [nc] at *
  all_goals try simp only [Dat.dec, Leaf.val, Z0, Z1, Z2, Z3, Z4, Z5, Z6, Z7, val_sl] at *
  all_goals try first
    | omega
    | (unfold InR; omega)
    | exact ⟨by omega, by omega⟩
    | exact ⟨Dat.hok fun _ => m.parts.getD k Dat.d0, p4 (by omega)⟩
    | (have c0 : k < m.parts.length := by omega
       have c1 : ¬ prtV (m.parts.getD k Dat.d0) = 0 := by assumption
       refine fin _ _ _ ?_
       have e : prtsV m.parts = prtV (m.parts.getD k Dat.d0) := by rw [hr, st c0, if_neg c1]
       rw [mchkV, if_neg (fun q => q h1), if_neg (by omega), if_pos (by rw [e]; exact c1), e])
    | (have c0 : k < m.parts.length := by omega
       have c1 : prtV (m.parts.getD k Dat.d0) = 0 := by assumption
       refine ⟨⟨k + 1, by omega, by rw [hr, st c0, if_pos c1]⟩, ?_, ?_, rfl, by (try dsimp only); omega⟩
       · cbv
         repeat' first | (refine Stp.mk ?_; cbv) | (refine Gen.mk fun r hr => ?_; (try simp only [Dat.ok, Dat.dec, Leaf.ok, Leaf.val, Z0, Z1, Z2, Z3, Z4, Z5, Z6, Z7, val_sl, val_nil] at hr); cbv) | exact trivial | rfl | refine Both.mk ?_ ?_ | (refine Imp.mk fun h => ?_; (try dsimp only at h); (try simp only [nc, Int.toNat_natCast, ne_eq, zz] at h); (try simp only [nc] at h)) | refine Ob.mk ?_ ?_ | refine Chk.mk (by kernel_rfl) ?_ | refine Eq'.mk ?_ | (refine AllN.mk fun i hi => ?_; cbv) | (refine AllC.mk fun c hc hcm => ?_; (try dsimp only at hc); cbv) | (refine AllS.mk fun r hr => ?_; (try simp only [Dat.ok, Dat.dec, Leaf.ok, Leaf.val, Z0, Z1, Z2, Z3, Z4, Z5, Z6, Z7, val_sl] at hr); cbv)
       · cbv
         repeat' first | (refine Stp.mk ?_; cbv) | (refine Gen.mk fun r hr => ?_; (try simp only [Dat.ok, Dat.dec, Leaf.ok, Leaf.val, Z0, Z1, Z2, Z3, Z4, Z5, Z6, Z7, val_sl, val_nil] at hr); cbv) | exact trivial | rfl | refine Both.mk ?_ ?_ | (refine Imp.mk fun h => ?_; (try dsimp only at h); (try simp only [nc, Int.toNat_natCast, ne_eq, zz] at h); (try simp only [nc] at h)) | refine Ob.mk ?_ ?_ | refine Chk.mk (by kernel_rfl) ?_ | refine Eq'.mk ?_ | (refine AllN.mk fun i hi => ?_; cbv) | (refine AllC.mk fun c hc hcm => ?_; (try dsimp only at hc); cbv) | (refine AllS.mk fun r hr => ?_; (try simp only [Dat.ok, Dat.dec, Leaf.ok, Leaf.val, Z0, Z1, Z2, Z3, Z4, Z5, Z6, Z7, val_sl] at hr); cbv))
  have h2 : prtsV m.parts = 0 := by rw [hr, List.drop_eq_nil_of_le (by omega)]; rfl
  refine LoopVC.frame [2, 8, 41, 42, 66] (MwX m) (fun x => [(41, .i .i64 fun _ => x.k)]) (fun _ => []) [] (fun x => m.wires.length - x.k) ⟨0, Nat.zero_le _, by rw [List.drop_zero]⟩ rfl (fun _ => rfl) ?_ ?_ fun ⟨k, hk, hr⟩ => ?_
  iterate 2
    · cbv
      repeat' first | (refine Stp.mk ?_; cbv) | (refine Gen.mk fun r hr => ?_; (try simp only [Dat.ok, Dat.dec, Leaf.ok, Leaf.val, Z0, Z1, Z2, Z3, Z4, Z5, Z6, Z7, val_sl, val_nil] at hr); cbv) | exact trivial | rfl | refine Both.mk ?_ ?_ | (refine Imp.mk fun h => ?_; (try dsimp only at h); (try simp only [nc, Int.toNat_natCast, ne_eq, zz] at h); (try simp only [nc] at h)) | refine Ob.mk ?_ ?_ | refine Chk.mk (by kernel_rfl) ?_ | refine Eq'.mk ?_ | (refine AllN.mk fun i hi => ?_; cbv) | (refine AllC.mk fun c hc hcm => ?_; (try dsimp only at hc); cbv) | (refine AllS.mk fun r hr => ?_; (try simp only [Dat.ok, Dat.dec, Leaf.ok, Leaf.val, Z0, Z1, Z2, Z3, Z4, Z5, Z6, Z7, val_sl] at hr); cbv)
  have st : k < m.wires.length → (m.wires.drop k).all (wirB m.parts.length) = (wirB m.parts.length (m.wires.getD k Dat.d0) && (m.wires.drop (k + 1)).all (wirB m.parts.length)) := fun h => by rw [drop_cons Dat.d0 h, List.all_cons]
  cbv
  repeat' first | (show Stp _; exfalso; first | omega | (exact h ‹_›) | (exact absurd ‹_› h) | (exact Bool.false_ne_true (h.symm.trans (show _ = true by assumption)))) | (refine Stp.mk ?_; cbv) | (refine Gen.mk fun r hr => ?_; (try simp only [Dat.ok, Dat.dec, Leaf.ok, Leaf.val, Z0, Z1, Z2, Z3, Z4, Z5, Z6, Z7, val_sl, val_nil] at hr); cbv) | exact trivial | rfl | refine Both.mk ?_ ?_ | (refine Imp.mk fun h => ?_; (try dsimp only at h); (try simp only [nc, Int.toNat_natCast, ne_eq, zz] at h); (try simp only [nc] at h)) | refine Ob.mk ?_ ?_ | refine Chk.mk (by kernel_rfl) ?_ | refine Eq'.mk ?_ | (refine AllN.mk fun i hi => ?_; cbv) | (refine AllC.mk fun c hc hcm => ?_; (try dsimp only at hc); cbv) | (refine AllS.mk fun r hr => ?_; (try simp only [Dat.ok, Dat.dec, Leaf.ok, Leaf.val, Z0, Z1, Z2, Z3, Z4, Z5, Z6, Z7, val_sl] at hr); cbv)
  all_goals ((try dsimp only at *); (try simp only [nc, Int.toNat_natCast, ne_eq, zz] at *); (try simp only [nc] at *))
  all_goals try rw [nc] at *
  all_goals try simp only [Dat.dec, Leaf.val, Z0, Z1, Z2, Z3, Z4, Z5, Z6, Z7, val_sl] at *
  all_goals try first
    | omega
    | (unfold InR; omega)
    | exact ⟨by omega, by omega⟩
    | exact ⟨Dat.hok fun _ => m, p2⟩
  all_goals try (
    have c0 : k < m.wires.length := by omega
    have bad : wirB m.parts.length (m.wires.getD k Dat.d0) = false → mchkV m = 4 := fun h => by
      rw [mchkV, if_neg (fun q => q h1), if_neg (by omega), if_neg (fun q => q h2), if_pos (by rw [hr, st c0, h]; rfl)]
    first
      | (have hb : partB m (m.wires.getD k Dat.d0).frm = false := by assumption
         exact fin _ _ _ (bad (decide_eq_false fun q => of_decide_eq_false hb ⟨q.1, q.2.1⟩)))
      | (have hb : partB m (m.wires.getD k Dat.d0).to = false := by assumption
         exact fin _ _ _ (bad (decide_eq_false fun q => of_decide_eq_false hb ⟨q.2.2.1, q.2.2.2.1⟩)))
      | (refine fin _ _ _ (bad (decide_eq_false fun q => ?_))
         omega)
      | (have hb : partB m (m.wires.getD k Dat.d0).frm = true := by assumption
         have hb2 : partB m (m.wires.getD k Dat.d0).to = true := by assumption
         have hb := of_decide_eq_true hb
         have hb2 := of_decide_eq_true hb2
         have e : wirB m.parts.length (m.wires.getD k Dat.d0) = true := decide_eq_true ⟨hb.1, hb.2, hb2.1, hb2.2, by assumption, by assumption⟩
         refine ⟨⟨k + 1, by omega, by rw [hr, st c0, e, Bool.true_and]⟩, ?_, ?_, rfl, by (try dsimp only); omega⟩
         · cbv
           repeat' first | (refine Stp.mk ?_; cbv) | (refine Gen.mk fun r hr => ?_; (try simp only [Dat.ok, Dat.dec, Leaf.ok, Leaf.val, Z0, Z1, Z2, Z3, Z4, Z5, Z6, Z7, val_sl, val_nil] at hr); cbv) | exact trivial | rfl | refine Both.mk ?_ ?_ | (refine Imp.mk fun h => ?_; (try dsimp only at h); (try simp only [nc, Int.toNat_natCast, ne_eq, zz] at h); (try simp only [nc] at h)) | refine Ob.mk ?_ ?_ | refine Chk.mk (by kernel_rfl) ?_ | refine Eq'.mk ?_ | (refine AllN.mk fun i hi => ?_; cbv) | (refine AllC.mk fun c hc hcm => ?_; (try dsimp only at hc); cbv) | (refine AllS.mk fun r hr => ?_; (try simp only [Dat.ok, Dat.dec, Leaf.ok, Leaf.val, Z0, Z1, Z2, Z3, Z4, Z5, Z6, Z7, val_sl] at hr); cbv)
         · cbv
           repeat' first | (refine Stp.mk ?_; cbv) | (refine Gen.mk fun r hr => ?_; (try simp only [Dat.ok, Dat.dec, Leaf.ok, Leaf.val, Z0, Z1, Z2, Z3, Z4, Z5, Z6, Z7, val_sl, val_nil] at hr); cbv) | exact trivial | rfl | refine Both.mk ?_ ?_ | (refine Imp.mk fun h => ?_; (try dsimp only at h); (try simp only [nc, Int.toNat_natCast, ne_eq, zz] at h); (try simp only [nc] at h)) | refine Ob.mk ?_ ?_ | refine Chk.mk (by kernel_rfl) ?_ | refine Eq'.mk ?_ | (refine AllN.mk fun i hi => ?_; cbv) | (refine AllC.mk fun c hc hcm => ?_; (try dsimp only at hc); cbv) | (refine AllS.mk fun r hr => ?_; (try simp only [Dat.ok, Dat.dec, Leaf.ok, Leaf.val, Z0, Z1, Z2, Z3, Z4, Z5, Z6, Z7, val_sl] at hr); cbv)))
  all_goals (
    have h3 : m.wires.all (wirB m.parts.length) = true := by rw [hr, List.drop_eq_nil_of_le (by omega)]; rfl
    refine fin _ _ _ ?_
    rw [mchkV, if_neg (fun q => q h1), if_neg (by omega), if_neg (fun q => q h2), if_neg (by rw [h3]; decide)]
    first
      | (rw [if_pos (.inl (decide_eq_false (by omega)))]; done)
      | (rw [if_pos (.inr (decide_eq_false (by omega)))]; done)
      | (rw [if_neg]
         rintro (q | q)
         · exact of_decide_eq_false q (by omega)
         · exact of_decide_eq_false q (by omega)))
theorem mchkC_ok : PcOk Try.prog 12 (detPC mchkC_D) := det_okA fun A p r h hp0 => by
  unfold mchkC_D at h
  split at h
  · rename_i m
    cases h
    obtain ⟨g0, hp⟩ := hp0
    exact ⟨rfl, FnOk.pre (A' := [.agg (Dat.enc fun _ => (Dat.dec m : Module))]) (mchkC_vc (Dat.dec m) hp) (.mk (Dat.hle _ g0) (trivial))⟩
  · cases h

end Go.Proofs.Ytbnpacdkllmblaa
