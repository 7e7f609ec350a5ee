/- Plans: conf.Check, walked. -/
import Derived.Test.YtnjngpjkhddnfaaGreatDoorTChk
import Derived.Test.YtnjngpjkhddnfaaGreatDoorTable
set_option linter.all false
namespace Go.Proofs.YtnjngpjkhddnfaaGreatDoor
open Go Go.Abs

def bigF (n : Int) : Bool := decide (n < 0) || decide (1000000 < n)
theorem big_not {n : Int} (h1 : 0 ≤ n) (h2 : n ≤ 1000000) : bigF n = false := by simp [bigF]; omega
theorem bigB_take {l : List Int} {k : Nat} (hk : k < l.length) (h : (l.take k).any bigF = false) (h2 : bigF (l.getD k Dat.d0) = false) : (l.take (k + 1)).any bigF = false := by
 rw [List.take_add_one, List.getElem?_eq_getElem hk, List.any_append, h]
 rw [List.getD_eq_getElem?_getD, List.getElem?_eq_getElem hk] at h2
 simpa using h2
theorem bigB_at {l : List Int} {k : Nat} (hk : k < l.length) (h2 : bigF (l.getD k Dat.d0) = true) : l.any bigF = true := by
 rw [List.getD_eq_getElem?_getD, List.getElem?_eq_getElem hk] at h2
 exact List.any_eq_true.2 ⟨_, List.getElem_mem hk, h2⟩
structure SmX (l : List Int) where
 k : Nat
 hk : k ≤ l.length
 ha : (l.take k).any bigF = false
def cfown_R (r : Th (Bool)) : AV := .b fun _ => (r ())
def cfown_D : Det := fun A => match A with
 | [.i .i64 n] => some (fun _ => True, cfown_R fun _ => ownB (n ()))
 | _ => none
set_option maxRecDepth 100000 in
set_option maxHeartbeats 4000000 in
theorem cfown_vc (n : Int) : FnOk Tryz.prog 34 [.i .i64 fun _ => n] [] (outA (cfown_R fun _ => ownB n) []) := by
 refine fn_ok envOk zl noCon_ok noDraws_ok (keep := [0, 2]) Tryz.func34 rfl ?_
 cbv
 repeat' first | (show Stp _; exfalso; first | omega | (exact h ‹_›) | (exact absurd ‹_› h) | (exact Bool.false_ne_true (h.symm.trans (show _ = true by assumption)))) | (refine Stp.mk ?_; cbv) | (refine Gen.mk fun r hr => ?_; (try simp only [Dat.ok, Dat.dec, Leaf.ok, Leaf.val, Z0, Z1, Z2, Z3, Z4, Z5, Z6, Z7, val_sl, val_nil] at hr); cbv) | exact trivial | rfl | refine Both.mk ?_ ?_ | (refine Imp.mk fun h => ?_; (try dsimp only at h); (try simp only [nc, Int.toNat_natCast, ne_eq, zz] at h); (try simp only [nc] at h)) | refine Ob.mk ?_ ?_ | refine Chk.mk (by kernel_rfl) ?_ | refine Eq'.mk ?_ | (refine AllN.mk fun i hi => ?_; cbv) | (refine AllC.mk fun c hc hcm => ?_; (try dsimp only at hc); cbv) | (refine AllS.mk fun r hr => ?_; (try simp only [Dat.ok, Dat.dec, Leaf.ok, Leaf.val, Z0, Z1, Z2, Z3, Z4, Z5, Z6, Z7, val_sl] at hr); cbv)
 all_goals ((try dsimp only at *); (try simp only [nc, Int.toNat_natCast, ne_eq, zz] at *); (try simp only [nc] at *))
 all_goals first
   | (simp [ownB]; omega)
   | fail
theorem cfown_ok : PcOk Tryz.prog 34 (detPC cfown_D) := det_okA fun A p r h hp0 => by
 unfold cfown_D at h
 split at h
 · rename_i n
   cases h
   exact ⟨rfl, FnOk.pre (A' := [.i .i64 fun _ => n ()]) (cfown_vc (n ())) (.mk (.mk (.mk rfl) (.mk rfl)) (trivial))⟩
 · cases h
noncomputable def cSm0 : FuncId → Con := fun f => match f with
 | 60 => inlCon E noCon noDraws [0, 2] Tryz.f60
 | _ => fun _ _ _ => Bad 1001
theorem cSm0_ok : ConOk Tryz.prog cSm0 := fun f A H K h => by
 unfold cSm0 at h
 split at h
 · exact ⟨⟨Tryz.f60, Tryz.func60, by kernel_rfl, by kernel_rfl⟩, inl_ok envOk zl noCon_ok noDraws_ok Tryz.func60 h⟩
 · cases h
noncomputable def cSm1 : FuncId → Con := fun f => match f with
 | 82 => inlCon E cSm0 noDraws [0, 1, 4, 5, 7, 8, 9, 16] Tryz.f82
 | _ => fun _ _ _ => Bad 1001
theorem cSm1_ok : ConOk Tryz.prog cSm1 := fun f A H K h => by
 unfold cSm1 at h
 split at h
 · exact ⟨⟨Tryz.f82, Tryz.func82, by kernel_rfl, by kernel_rfl⟩, inl_ok envOk zl cSm0_ok noDraws_ok Tryz.func82 h⟩
 · cases h
noncomputable def cSm2 : FuncId → Con := fun f => match f with
 | 59 => inlCon E cSm1 noDraws [0, 1, 4] Tryz.f59
 | _ => fun _ _ _ => Bad 1001
theorem cSm2_ok : ConOk Tryz.prog cSm2 := fun f A H K h => by
 unfold cSm2 at h
 split at h
 · exact ⟨⟨Tryz.f59, Tryz.func59, by kernel_rfl, by kernel_rfl⟩, inl_ok envOk zl cSm1_ok noDraws_ok Tryz.func59 h⟩
 · cases h
def smV (l : List Int) : Bool := !(l.any bigF)
def cfsm_R (r : Th (Bool)) : AV := .b fun _ => (r ())
def cfsm_P (l : (List Int)) : Prop := l.length ≤ 9223372036854775807
def cfsm_D : Det := fun A => match A with
 | [l] => some (fun _ => Leaf.ok (List Int) l ∧ cfsm_P (Leaf.val l), cfsm_R fun _ => smV (Leaf.val l))
 | _ => none
set_option maxRecDepth 100000 in
set_option maxHeartbeats 4000000 in
theorem cfsm_vc (l : (List Int)) (hp : cfsm_P l) : FnOk Tryz.prog 35 [Leaf.av fun _ => l] [] (outA (cfsm_R fun _ => smV l) []) := by
 refine fn_ok envOk zl cSm2_ok noDraws_ok (keep := [0, 2]) Tryz.func35 rfl ?_
 have hp' : l.length ≤ 9223372036854775807 := hp
 have fin : ∀ (e : PUnit → Bool) H kl, smV l = e () → outA (cfsm_R fun _ => smV l) [] (.b e) H kl := fun e H kl h => by
   rw [h]
   cbv
   repeat' first | (refine Stp.mk ?_; cbv) | (refine Gen.mk fun r hr => ?_; (try simp only [Dat.ok, Dat.dec, Leaf.ok, Leaf.val, Z0, Z1, Z2, Z3, Z4, Z5, Z6, Z7, val_sl, val_nil] at hr); cbv) | exact trivial | rfl | refine Both.mk ?_ ?_ | (refine Imp.mk fun h => ?_; (try dsimp only at h); (try simp only [nc, Int.toNat_natCast, ne_eq, zz] at h); (try simp only [nc] at h)) | refine Ob.mk ?_ ?_ | refine Chk.mk (by kernel_rfl) ?_ | refine Eq'.mk ?_ | (refine AllN.mk fun i hi => ?_; cbv) | (refine AllC.mk fun c hc hcm => ?_; (try dsimp only at hc); cbv) | (refine AllS.mk fun r hr => ?_; (try simp only [Dat.ok, Dat.dec, Leaf.ok, Leaf.val, Z0, Z1, Z2, Z3, Z4, Z5, Z6, Z7, val_sl] at hr); cbv)
 generalize outA (cfsm_R fun _ => smV l) [] = K at fin ⊢
 cbv
 repeat' first | (show Stp _; exfalso; first | omega | (exact h ‹_›) | (exact absurd ‹_› h) | (exact Bool.false_ne_true (h.symm.trans (show _ = true by assumption)))) | (refine Stp.mk ?_; cbv) | (refine Gen.mk fun r hr => ?_; (try simp only [Dat.ok, Dat.dec, Leaf.ok, Leaf.val, Z0, Z1, Z2, Z3, Z4, Z5, Z6, Z7, val_sl, val_nil] at hr); cbv) | exact trivial | rfl | refine Both.mk ?_ ?_ | (refine Imp.mk fun h => ?_; (try dsimp only at h); (try simp only [nc, Int.toNat_natCast, ne_eq, zz] at h); (try simp only [nc] at h)) | refine Ob.mk ?_ ?_ | refine Chk.mk (by kernel_rfl) ?_ | refine Eq'.mk ?_ | (refine AllN.mk fun i hi => ?_; cbv) | (refine AllC.mk fun c hc hcm => ?_; (try dsimp only at hc); cbv) | (refine AllS.mk fun r hr => ?_; (try simp only [Dat.ok, Dat.dec, Leaf.ok, Leaf.val, Z0, Z1, Z2, Z3, Z4, Z5, Z6, Z7, val_sl] at hr); cbv)
 all_goals ((try dsimp only at *); (try simp only [nc, Int.toNat_natCast, ne_eq, zz] at *); (try simp only [nc] at *))
 refine LoopVC.frame [4, 5, 8, 9, 16] (SmX l) (fun x => [(8, .i .i64 fun _ => x.k)]) (fun _ => []) [] (fun x => l.length - x.k) ⟨0, Nat.zero_le _, rfl⟩ rfl (fun _ => rfl) ?_ ?_ fun ⟨k, hk, ha⟩ => ?_
 iterate 2
   · cbv
     repeat' first | (refine Stp.mk ?_; cbv) | (refine Gen.mk fun r hr => ?_; (try simp only [Dat.ok, Dat.dec, Leaf.ok, Leaf.val, Z0, Z1, Z2, Z3, Z4, Z5, Z6, Z7, val_sl, val_nil] at hr); cbv) | exact trivial | rfl | refine Both.mk ?_ ?_ | (refine Imp.mk fun h => ?_; (try dsimp only at h); (try simp only [nc, Int.toNat_natCast, ne_eq, zz] at h); (try simp only [nc] at h)) | refine Ob.mk ?_ ?_ | refine Chk.mk (by kernel_rfl) ?_ | refine Eq'.mk ?_ | (refine AllN.mk fun i hi => ?_; cbv) | (refine AllC.mk fun c hc hcm => ?_; (try dsimp only at hc); cbv) | (refine AllS.mk fun r hr => ?_; (try simp only [Dat.ok, Dat.dec, Leaf.ok, Leaf.val, Z0, Z1, Z2, Z3, Z4, Z5, Z6, Z7, val_sl] at hr); cbv)
 · cbv
   repeat' first | (show Stp _; exfalso; first | omega | (exact h ‹_›) | (exact absurd ‹_› h) | (exact Bool.false_ne_true (h.symm.trans (show _ = true by assumption)))) | (refine Stp.mk ?_; cbv) | (refine Gen.mk fun r hr => ?_; (try simp only [Dat.ok, Dat.dec, Leaf.ok, Leaf.val, Z0, Z1, Z2, Z3, Z4, Z5, Z6, Z7, val_sl, val_nil] at hr); cbv) | exact trivial | rfl | refine Both.mk ?_ ?_ | (refine Imp.mk fun h => ?_; (try dsimp only at h); (try simp only [nc, Int.toNat_natCast, ne_eq, zz] at h); (try simp only [nc] at h)) | refine Ob.mk ?_ ?_ | refine Chk.mk (by kernel_rfl) ?_ | refine Eq'.mk ?_ | (refine AllN.mk fun i hi => ?_; cbv) | (refine AllC.mk fun c hc hcm => ?_; (try dsimp only at hc); cbv) | (refine AllS.mk fun r hr => ?_; (try simp only [Dat.ok, Dat.dec, Leaf.ok, Leaf.val, Z0, Z1, Z2, Z3, Z4, Z5, Z6, Z7, val_sl] at hr); cbv)
   all_goals ((try dsimp only at *); (try simp only [nc, Int.toNat_natCast, ne_eq, zz] at *); (try simp only [nc] at *))
   all_goals try rw [nc] at *
   all_goals first
     | omega
     | (unfold InR; omega)
     | (have hk2 : k < l.length := by omega
        have hw : bigF (l.getD k Dat.d0) = true := by simp only [bigF, Bool.or_eq_true, decide_eq_true_eq]; omega
        refine fin _ _ _ ?_
        show (!(l.any bigF)) = _
        rw [bigB_at hk2 hw, decide_eq_true (show (0 : Int) ≤ (k : Int) by omega)])
     | (have hk2 : k < l.length := by omega
        refine ⟨⟨k + 1, by omega, bigB_take hk2 ha (big_not (by omega) (by omega))⟩, ?_, ?_, rfl, by (try dsimp only); omega⟩
        · cbv
          repeat' first | (refine Stp.mk ?_; cbv) | (refine Gen.mk fun r hr => ?_; (try simp only [Dat.ok, Dat.dec, Leaf.ok, Leaf.val, Z0, Z1, Z2, Z3, Z4, Z5, Z6, Z7, val_sl, val_nil] at hr); cbv) | exact trivial | rfl | refine Both.mk ?_ ?_ | (refine Imp.mk fun h => ?_; (try dsimp only at h); (try simp only [nc, Int.toNat_natCast, ne_eq, zz] at h); (try simp only [nc] at h)) | refine Ob.mk ?_ ?_ | refine Chk.mk (by kernel_rfl) ?_ | refine Eq'.mk ?_ | (refine AllN.mk fun i hi => ?_; cbv) | (refine AllC.mk fun c hc hcm => ?_; (try dsimp only at hc); cbv) | (refine AllS.mk fun r hr => ?_; (try simp only [Dat.ok, Dat.dec, Leaf.ok, Leaf.val, Z0, Z1, Z2, Z3, Z4, Z5, Z6, Z7, val_sl] at hr); cbv)
        · cbv
          repeat' first | (refine Stp.mk ?_; cbv) | (refine Gen.mk fun r hr => ?_; (try simp only [Dat.ok, Dat.dec, Leaf.ok, Leaf.val, Z0, Z1, Z2, Z3, Z4, Z5, Z6, Z7, val_sl, val_nil] at hr); cbv) | exact trivial | rfl | refine Both.mk ?_ ?_ | (refine Imp.mk fun h => ?_; (try dsimp only at h); (try simp only [nc, Int.toNat_natCast, ne_eq, zz] at h); (try simp only [nc] at h)) | refine Ob.mk ?_ ?_ | refine Chk.mk (by kernel_rfl) ?_ | refine Eq'.mk ?_ | (refine AllN.mk fun i hi => ?_; cbv) | (refine AllC.mk fun c hc hcm => ?_; (try dsimp only at hc); cbv) | (refine AllS.mk fun r hr => ?_; (try simp only [Dat.ok, Dat.dec, Leaf.ok, Leaf.val, Z0, Z1, Z2, Z3, Z4, Z5, Z6, Z7, val_sl] at hr); cbv))
     | (refine fin _ _ _ ?_
        have e : l.take k = l := List.take_of_length_le (by omega)
        rw [e] at ha
        show (!(l.any bigF)) = _
        rw [ha]; rfl)
     | fail
theorem cfsm_ok : PcOk Tryz.prog 35 (detPC cfsm_D) := det_okA fun A p r h hp0 => by
 unfold cfsm_D at h
 split at h
 · rename_i l
   cases h
   obtain ⟨g0, hp⟩ := hp0
   exact ⟨rfl, FnOk.pre (A' := [Leaf.av fun _ => (Leaf.val l : (List Int))]) (cfsm_vc (Leaf.val l) hp) (.mk (Leaf.hle _ g0) (trivial))⟩
 · cases h
def wantF (w : Want) : Bool := ownB w.owner && smV [w.frm, w.long, w.every]
def jobF (j : PlanJob) : Bool := ownB j.owner && decide (tchkV [j.task] = 0)
def pchkV (p : Plan) : Int := if p.frame < 1 ∨ 1000000 < p.frame then 1 else if 200 < p.wants.length ∨ 100 < p.jobs.length then 2 else if p.wants.all wantF = true ∧ p.jobs.all jobF = true then 0 else 4
theorem pl_take {α : Type} [Dat α] {f : α → Bool} {l : List α} {k : Nat} (hk : k < l.length) (h : (l.take k).all f = true) (h2 : f (l.getD k Dat.d0) = true) : (l.take (k + 1)).all f = true := by
 rw [List.take_add_one, List.getElem?_eq_getElem hk, List.all_append, h]
 rw [List.getD_eq_getElem?_getD, List.getElem?_eq_getElem hk] at h2
 simpa using h2
theorem pl_get {α : Type} [Dat α] {f : α → Bool} {l : List α} {k : Nat} (hk : k < l.length) (h : l.all f = true) : f (l.getD k Dat.d0) = true := by
 rw [List.getD_eq_getElem?_getD, List.getElem?_eq_getElem hk]
 exact List.all_eq_true.1 h _ (List.getElem_mem hk)
structure PwX (p : Plan) where
 k : Nat
 hk : k ≤ p.wants.length
 ha : (p.wants.take k).all wantF = true
structure PjX (p : Plan) where
 k : Nat
 hk : k ≤ p.jobs.length
 ha : (p.jobs.take k).all jobF = true
theorem val_3 (a b c : Int) : Leaf.val (α := List Int) (.sl 1 (fun _ => 3) (rowN 1 [.i .i64 fun _ => a, .i .i64 fun _ => b, .i .i64 fun _ => c])) = [a, b, c] := rfl
theorem ok_3 (a b c : Int) : Leaf.ok (List Int) (.sl 1 (fun _ => 3) (rowN 1 [.i .i64 fun _ => a, .i .i64 fun _ => b, .i .i64 fun _ => c])) := by
 refine ⟨rfl, fun i hi => ?_⟩
 have hi : i < 3 := hi
 rcases i with _ | _ | _ | i
 · exact trivial
 · exact trivial
 · exact trivial
 · omega
theorem val_t1 (x : Task) : Leaf.val (α := List Task) (.sl 3 (fun _ => 1) fun _ => [.i .i64 fun _ => x.long, .i .i64 fun _ => x.every, .i .i64 fun _ => x.due]) = [x] := rfl
theorem ok_t1 (x : Task) : Leaf.ok (List Task) (.sl 3 (fun _ => 1) fun _ => [.i .i64 fun _ => x.long, .i .i64 fun _ => x.every, .i .i64 fun _ => x.due]) := ⟨rfl, fun i _ => Dat.hok fun _ => x⟩
noncomputable def cPc : FuncId → Con := fun f => match f with
 | 34 => pureCon (detPC cfown_D)
 | 35 => pureCon (detPC cfsm_D)
 | 36 => pureCon (detPC tchk_D)
 | _ => fun _ _ _ => Bad 1001
theorem cPc_ok : ConOk Tryz.prog cPc := fun f A H K h => by
 unfold cPc at h
 split at h
 · exact ⟨⟨Tryz.f34, Tryz.func34, by kernel_rfl, by kernel_rfl⟩, pureCon_ok cfown_ok h⟩
 · exact ⟨⟨Tryz.f35, Tryz.func35, by kernel_rfl, by kernel_rfl⟩, pureCon_ok cfsm_ok h⟩
 · exact ⟨⟨Tryz.f36, Tryz.func36, by kernel_rfl, by kernel_rfl⟩, pureCon_ok tchk_ok h⟩
 · cases h
def dPc : FuncId → Option Dt := fun f => match f with
 | 34 => some (.c cfown_D)
 | 35 => some (.c cfsm_D)
 | 36 => some (.c tchk_D)
 | _ => none
theorem dPc_ok : DetOk Tryz.prog dPc := fun f d h => by
 unfold dPc at h
 split at h
 · cases h; exact ⟨⟨Tryz.f34, Tryz.func34, by kernel_rfl, by kernel_rfl⟩, cfown_ok⟩
 · cases h; exact ⟨⟨Tryz.f35, Tryz.func35, by kernel_rfl, by kernel_rfl⟩, cfsm_ok⟩
 · cases h; exact ⟨⟨Tryz.f36, Tryz.func36, by kernel_rfl, by kernel_rfl⟩, tchk_ok⟩
 · cases h
def pchk_R (r : Th (Int)) : AV := .i .i64 fun _ => (r ())
def pchk_P (p : Plan) : Prop := p.wants.length ≤ 9223372036854775807 ∧ p.jobs.length ≤ 9223372036854775807
def pchk_D : Det := fun A => match A with
 | [.agg p] => some (fun _ => Dat.ok Plan p ∧ pchk_P (Dat.dec p), pchk_R fun _ => pchkV (Dat.dec p))
 | _ => none
set_option maxRecDepth 100000 in
set_option maxHeartbeats 4000000 in
theorem pchk_vc (p : Plan) (hp : pchk_P p) : FnOk Tryz.prog 21 [.agg (Dat.enc fun _ => p)] [] (outA (pchk_R fun _ => pchkV p) []) := by
 refine fn_ok envOk zl cPc_ok (draws_ok envOk zl dPc_ok mixed) (keep := [0, 1, 2, 4, 6, 14, 24, 26, 27, 28, 29, 46, 49, 50, 51, 52, 65]) Tryz.func21 rfl ?_
 obtain ⟨hp1, hp2⟩ : p.wants.length ≤ 9223372036854775807 ∧ p.jobs.length ≤ 9223372036854775807 := hp
 have fin : ∀ (e : Int) H kl, pchkV p = e → outA (pchk_R fun _ => pchkV p) [] (.i .i64 fun _ => e) H kl := fun e H kl h => by
   rw [h]
   cbv
   repeat' first | (refine Stp.mk ?_; cbv) | (refine Gen.mk fun r hr => ?_; (try simp only [Dat.ok, Dat.dec, Leaf.ok, Leaf.val, Z0, Z1, Z2, Z3, Z4, Z5, Z6, Z7, val_sl, val_nil] at hr); cbv) | exact trivial | rfl | refine Both.mk ?_ ?_ | (refine Imp.mk fun h => ?_; (try dsimp only at h); (try simp only [nc, Int.toNat_natCast, ne_eq, zz] at h); (try simp only [nc] at h)) | refine Ob.mk ?_ ?_ | refine Chk.mk (by kernel_rfl) ?_ | refine Eq'.mk ?_ | (refine AllN.mk fun i hi => ?_; cbv) | (refine AllC.mk fun c hc hcm => ?_; (try dsimp only at hc); cbv) | (refine AllS.mk fun r hr => ?_; (try simp only [Dat.ok, Dat.dec, Leaf.ok, Leaf.val, Z0, Z1, Z2, Z3, Z4, Z5, Z6, Z7, val_sl] at hr); cbv)
 generalize outA (pchk_R fun _ => pchkV p) [] = K at fin ⊢
 cbv
 repeat' first | (show Stp _; exfalso; first | omega | (exact h ‹_›) | (exact absurd ‹_› h) | (exact Bool.false_ne_true (h.symm.trans (show _ = true by assumption)))) | (refine Stp.mk ?_; cbv) | (refine Gen.mk fun r hr => ?_; (try simp only [Dat.ok, Dat.dec, Leaf.ok, Leaf.val, Z0, Z1, Z2, Z3, Z4, Z5, Z6, Z7, val_sl, val_nil] at hr); cbv) | exact trivial | rfl | refine Both.mk ?_ ?_ | (refine Imp.mk fun h => ?_; (try dsimp only at h); (try simp only [nc, Int.toNat_natCast, ne_eq, zz] at h); (try simp only [nc] at h)) | refine Ob.mk ?_ ?_ | refine Chk.mk (by kernel_rfl) ?_ | refine Eq'.mk ?_ | (refine AllN.mk fun i hi => ?_; cbv) | (refine AllC.mk fun c hc hcm => ?_; (try dsimp only at hc); cbv) | (refine AllS.mk fun r hr => ?_; (try simp only [Dat.ok, Dat.dec, Leaf.ok, Leaf.val, Z0, Z1, Z2, Z3, Z4, Z5, Z6, Z7, val_sl] at hr); cbv)
 all_goals ((try dsimp only at *); (try simp only [nc, Int.toNat_natCast, ne_eq, zz] at *); (try simp only [nc] at *))
 all_goals first
   | (refine fin _ _ _ ?_
      first
        | (rw [pchkV, if_pos (by omega)]; done)
        | (rw [pchkV, if_neg (by omega), if_pos (by omega)]; done))
   | skip
 refine LoopVC.frame [2, 4, 28, 29, 46] (PwX p) (fun x => [(28, .i .i64 fun _ => x.k)]) (fun _ => []) [] (fun x => p.wants.length - x.k) ⟨0, Nat.zero_le _, rfl⟩ rfl (fun _ => rfl) ?_ ?_ fun ⟨k, hk, ha⟩ => ?_
 iterate 2
   · cbv
     repeat' first | (refine Stp.mk ?_; cbv) | (refine Gen.mk fun r hr => ?_; (try simp only [Dat.ok, Dat.dec, Leaf.ok, Leaf.val, Z0, Z1, Z2, Z3, Z4, Z5, Z6, Z7, val_sl, val_nil] at hr); cbv) | exact trivial | rfl | refine Both.mk ?_ ?_ | (refine Imp.mk fun h => ?_; (try dsimp only at h); (try simp only [nc, Int.toNat_natCast, ne_eq, zz] at h); (try simp only [nc] at h)) | refine Ob.mk ?_ ?_ | refine Chk.mk (by kernel_rfl) ?_ | refine Eq'.mk ?_ | (refine AllN.mk fun i hi => ?_; cbv) | (refine AllC.mk fun c hc hcm => ?_; (try dsimp only at hc); cbv) | (refine AllS.mk fun r hr => ?_; (try simp only [Dat.ok, Dat.dec, Leaf.ok, Leaf.val, Z0, Z1, Z2, Z3, Z4, Z5, Z6, Z7, val_sl] at hr); cbv)
 · cbv
   repeat' first | (show Stp _; exfalso; first | omega | (exact h ‹_›) | (exact absurd ‹_› h) | (exact Bool.false_ne_true (h.symm.trans (show _ = true by assumption)))) | (refine Stp.mk ?_; cbv) | (refine Gen.mk fun r hr => ?_; (try simp only [Dat.ok, Dat.dec, Leaf.ok, Leaf.val, Z0, Z1, Z2, Z3, Z4, Z5, Z6, Z7, val_sl, val_nil] at hr); cbv) | exact trivial | rfl | refine Both.mk ?_ ?_ | (refine Imp.mk fun h => ?_; (try dsimp only at h); (try simp only [nc, Int.toNat_natCast, ne_eq, zz] at h); (try simp only [nc] at h)) | refine Ob.mk ?_ ?_ | refine Chk.mk (by kernel_rfl) ?_ | refine Eq'.mk ?_ | (refine AllN.mk fun i hi => ?_; cbv) | (refine AllC.mk fun c hc hcm => ?_; (try dsimp only at hc); cbv) | (refine AllS.mk fun r hr => ?_; (try simp only [Dat.ok, Dat.dec, Leaf.ok, Leaf.val, Z0, Z1, Z2, Z3, Z4, Z5, Z6, Z7, val_sl] at hr); cbv)
   all_goals ((try dsimp only at *); (try simp only [nc, Int.toNat_natCast, ne_eq, zz] at *); (try simp only [nc] at *))
   all_goals try rw [nc] at *
   all_goals try simp only [val_3] at *
   all_goals first
     | omega
     | exact ⟨by omega, by omega⟩
     | exact ⟨ok_3 _ _ _, show (3 : Nat) ≤ _ by decide⟩
     | (unfold InR; omega)
     | (have hk2 : k < p.wants.length := by omega
        refine fin _ _ _ ?_
        rw [pchkV, if_neg (by omega), if_neg (by omega), if_neg]
        rintro ⟨q, -⟩
        have := pl_get hk2 q
        simp only [wantF, Bool.and_eq_true] at this
        first
          | (rw [‹ownB _ = false›] at this; exact absurd this.1 (by decide))
          | (have z : smV [(p.wants.getD k Dat.d0).frm, (p.wants.getD k Dat.d0).long, (p.wants.getD k Dat.d0).every] = false := by assumption
             exact Bool.noConfusion (z.symm.trans this.2)))
     | (have hk2 : k < p.wants.length := by omega
        refine ⟨⟨k + 1, by omega, pl_take hk2 ha (by
          simp only [wantF, Bool.and_eq_true]; exact ⟨by assumption, by assumption⟩)⟩, ?_, ?_, rfl, by (try dsimp only); omega⟩
        · cbv
          repeat' first | (refine Stp.mk ?_; cbv) | (refine Gen.mk fun r hr => ?_; (try simp only [Dat.ok, Dat.dec, Leaf.ok, Leaf.val, Z0, Z1, Z2, Z3, Z4, Z5, Z6, Z7, val_sl, val_nil] at hr); cbv) | exact trivial | rfl | refine Both.mk ?_ ?_ | (refine Imp.mk fun h => ?_; (try dsimp only at h); (try simp only [nc, Int.toNat_natCast, ne_eq, zz] at h); (try simp only [nc] at h)) | refine Ob.mk ?_ ?_ | refine Chk.mk (by kernel_rfl) ?_ | refine Eq'.mk ?_ | (refine AllN.mk fun i hi => ?_; cbv) | (refine AllC.mk fun c hc hcm => ?_; (try dsimp only at hc); cbv) | (refine AllS.mk fun r hr => ?_; (try simp only [Dat.ok, Dat.dec, Leaf.ok, Leaf.val, Z0, Z1, Z2, Z3, Z4, Z5, Z6, Z7, val_sl] at hr); cbv)
        · cbv
          repeat' first | (refine Stp.mk ?_; cbv) | (refine Gen.mk fun r hr => ?_; (try simp only [Dat.ok, Dat.dec, Leaf.ok, Leaf.val, Z0, Z1, Z2, Z3, Z4, Z5, Z6, Z7, val_sl, val_nil] at hr); cbv) | exact trivial | rfl | refine Both.mk ?_ ?_ | (refine Imp.mk fun h => ?_; (try dsimp only at h); (try simp only [nc, Int.toNat_natCast, ne_eq, zz] at h); (try simp only [nc] at h)) | refine Ob.mk ?_ ?_ | refine Chk.mk (by kernel_rfl) ?_ | refine Eq'.mk ?_ | (refine AllN.mk fun i hi => ?_; cbv) | (refine AllC.mk fun c hc hcm => ?_; (try dsimp only at hc); cbv) | (refine AllS.mk fun r hr => ?_; (try simp only [Dat.ok, Dat.dec, Leaf.ok, Leaf.val, Z0, Z1, Z2, Z3, Z4, Z5, Z6, Z7, val_sl] at hr); cbv))
     | skip
   have hw : p.wants.all wantF = true := by rw [← List.take_of_length_le (show p.wants.length ≤ k by omega)]; exact ha
   refine LoopVC.frame [2, 6, 51, 52, 65] (PjX p) (fun x => [(51, .i .i64 fun _ => x.k)]) (fun _ => []) [] (fun x => p.jobs.length - x.k) ⟨0, Nat.zero_le _, rfl⟩ rfl (fun _ => rfl) ?_ ?_ fun ⟨k, hk, ha⟩ => ?_
   iterate 2
     · cbv
       repeat' first | (refine Stp.mk ?_; cbv) | (refine Gen.mk fun r hr => ?_; (try simp only [Dat.ok, Dat.dec, Leaf.ok, Leaf.val, Z0, Z1, Z2, Z3, Z4, Z5, Z6, Z7, val_sl, val_nil] at hr); cbv) | exact trivial | rfl | refine Both.mk ?_ ?_ | (refine Imp.mk fun h => ?_; (try dsimp only at h); (try simp only [nc, Int.toNat_natCast, ne_eq, zz] at h); (try simp only [nc] at h)) | refine Ob.mk ?_ ?_ | refine Chk.mk (by kernel_rfl) ?_ | refine Eq'.mk ?_ | (refine AllN.mk fun i hi => ?_; cbv) | (refine AllC.mk fun c hc hcm => ?_; (try dsimp only at hc); cbv) | (refine AllS.mk fun r hr => ?_; (try simp only [Dat.ok, Dat.dec, Leaf.ok, Leaf.val, Z0, Z1, Z2, Z3, Z4, Z5, Z6, Z7, val_sl] at hr); cbv)
   · cbv
     repeat' first | (show Stp _; exfalso; first | omega | (exact h ‹_›) | (exact absurd ‹_› h) | (exact Bool.false_ne_true (h.symm.trans (show _ = true by assumption)))) | (refine Stp.mk ?_; cbv) | (refine Gen.mk fun r hr => ?_; (try simp only [Dat.ok, Dat.dec, Leaf.ok, Leaf.val, Z0, Z1, Z2, Z3, Z4, Z5, Z6, Z7, val_sl, val_nil] at hr); cbv) | exact trivial | rfl | refine Both.mk ?_ ?_ | (refine Imp.mk fun h => ?_; (try dsimp only at h); (try simp only [nc, Int.toNat_natCast, ne_eq, zz] at h); (try simp only [nc] at h)) | refine Ob.mk ?_ ?_ | refine Chk.mk (by kernel_rfl) ?_ | refine Eq'.mk ?_ | (refine AllN.mk fun i hi => ?_; cbv) | (refine AllC.mk fun c hc hcm => ?_; (try dsimp only at hc); cbv) | (refine AllS.mk fun r hr => ?_; (try simp only [Dat.ok, Dat.dec, Leaf.ok, Leaf.val, Z0, Z1, Z2, Z3, Z4, Z5, Z6, Z7, val_sl] at hr); cbv)
     all_goals ((try dsimp only at *); (try simp only [nc, Int.toNat_natCast, ne_eq, zz] at *); (try simp only [nc] at *))
     all_goals try rw [nc] at *
     all_goals try simp only [val_t1] at *
     all_goals first
       | omega
       | exact ⟨by omega, by omega⟩
       | exact ⟨ok_t1 _, show (1 : Nat) ≤ _ by decide⟩
       | (unfold InR; omega)
       | (have hk2 : k < p.jobs.length := by omega
          refine fin _ _ _ ?_
          rw [pchkV, if_neg (by omega), if_neg (by omega), if_neg]
          rintro ⟨-, q⟩
          have := pl_get hk2 q
          simp only [jobF, Bool.and_eq_true, decide_eq_true_eq] at this
          first
            | (have z : ownB (p.jobs.getD k Dat.d0).owner = false := by assumption
               exact Bool.noConfusion (z.symm.trans this.1))
            | (have z : ¬ tchkV [(p.jobs.getD k Dat.d0).task] = 0 := by assumption
               exact z this.2))
       | (have hk2 : k < p.jobs.length := by omega
          refine ⟨⟨k + 1, by omega, pl_take hk2 ha (by
            simp only [jobF, Bool.and_eq_true, decide_eq_true_eq]; exact ⟨by assumption, by assumption⟩)⟩, ?_, ?_, rfl, by (try dsimp only); omega⟩
          · cbv
            repeat' first | (refine Stp.mk ?_; cbv) | (refine Gen.mk fun r hr => ?_; (try simp only [Dat.ok, Dat.dec, Leaf.ok, Leaf.val, Z0, Z1, Z2, Z3, Z4, Z5, Z6, Z7, val_sl, val_nil] at hr); cbv) | exact trivial | rfl | refine Both.mk ?_ ?_ | (refine Imp.mk fun h => ?_; (try dsimp only at h); (try simp only [nc, Int.toNat_natCast, ne_eq, zz] at h); (try simp only [nc] at h)) | refine Ob.mk ?_ ?_ | refine Chk.mk (by kernel_rfl) ?_ | refine Eq'.mk ?_ | (refine AllN.mk fun i hi => ?_; cbv) | (refine AllC.mk fun c hc hcm => ?_; (try dsimp only at hc); cbv) | (refine AllS.mk fun r hr => ?_; (try simp only [Dat.ok, Dat.dec, Leaf.ok, Leaf.val, Z0, Z1, Z2, Z3, Z4, Z5, Z6, Z7, val_sl] at hr); cbv)
          · cbv
            repeat' first | (refine Stp.mk ?_; cbv) | (refine Gen.mk fun r hr => ?_; (try simp only [Dat.ok, Dat.dec, Leaf.ok, Leaf.val, Z0, Z1, Z2, Z3, Z4, Z5, Z6, Z7, val_sl, val_nil] at hr); cbv) | exact trivial | rfl | refine Both.mk ?_ ?_ | (refine Imp.mk fun h => ?_; (try dsimp only at h); (try simp only [nc, Int.toNat_natCast, ne_eq, zz] at h); (try simp only [nc] at h)) | refine Ob.mk ?_ ?_ | refine Chk.mk (by kernel_rfl) ?_ | refine Eq'.mk ?_ | (refine AllN.mk fun i hi => ?_; cbv) | (refine AllC.mk fun c hc hcm => ?_; (try dsimp only at hc); cbv) | (refine AllS.mk fun r hr => ?_; (try simp only [Dat.ok, Dat.dec, Leaf.ok, Leaf.val, Z0, Z1, Z2, Z3, Z4, Z5, Z6, Z7, val_sl] at hr); cbv))
       | (have hj : p.jobs.all jobF = true := by rw [← List.take_of_length_le (show p.jobs.length ≤ k by omega)]; exact ha
          refine fin _ _ _ ?_
          rw [pchkV, if_neg (by omega), if_neg (by omega), if_pos ⟨hw, hj⟩])
       | fail
theorem pchk_ok : PcOk Tryz.prog 21 (detPC pchk_D) := det_okA fun A p r h hp0 => by
 unfold pchk_D at h
 split at h
 · rename_i p
   cases h
   obtain ⟨g0, hp⟩ := hp0
   exact ⟨rfl, FnOk.pre (A' := [.agg (Dat.enc fun _ => (Dat.dec p : Plan))]) (pchk_vc (Dat.dec p) hp) (.mk (Dat.hle _ g0) (trivial))⟩
 · cases h

end Go.Proofs.YtnjngpjkhddnfaaGreatDoor
