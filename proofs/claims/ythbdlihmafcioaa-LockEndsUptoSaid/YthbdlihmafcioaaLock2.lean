/- lock.ceilings: walked. -/
import Derived.Test.YthbdlihmafcioaaLock1
import Derived.Test.YthbdlihmafcioaaRepeat
set_option linter.all false
namespace Go.Proofs.Ythbdlihmafcioaa
open Go Go.Abs

theorem getD_in {α : Type} {l : List α} {d : α} {i : Nat} (h : i < l.length) : l.getD i d ∈ l := by
  rw [List.getD_eq_getElem?_getD, List.getElem?_eq_getElem h]; exact List.getElem_mem h
theorem lck_take {l : List Work} (h : lckV l = 0) {i j : Nat} (hi : i < l.length) (hj : j < (l.getD i Dat.d0).acts.length) (hk : ((l.getD i Dat.d0).acts.getD j Dat.d0).kind = 2) :
    0 ≤ ((l.getD i Dat.d0).acts.getD j Dat.d0).n ∧ ((l.getD i Dat.d0).acts.getD j Dat.d0).n < 8 := by
  have hw : l.getD i Dat.d0 ∈ l := getD_in hi
  have h2 := ((lck_iff.1 h).2 _ hw).2
  have ha : (l.getD i Dat.d0).acts.getD j Dat.d0 ∈ (l.getD i Dat.d0).acts := getD_in hj
  unfold rgtV at h2
  rw [Bool.and_eq_true] at h2
  exact rgtR_take h2.2 _ ha hk
theorem set_cond {l : List Int} {i p : Nat} {v : Int} (hi : i < l.length) : (bif decide (i = p) then v else l.getD i Dat.d0) = (l.set p v).getD i Dat.d0 := by
  by_cases h : i = p
  · subst h
    rw [decide_eq_true rfl, cond_true]
    simp [List.getD_eq_getElem?_getD, hi]
  · rw [decide_eq_false h, cond_false]
    simp [List.getD_eq_getElem?_getD, List.getElem?_set, Ne.symm h]
structure ClX (l : List Work) where
  k : Nat
  out : List Int
  hk : k ≤ l.length
  hl : out.length = 8
  hr : ceilV l = ceilW k out (l.drop k)
structure CaX (l : List Work) (k : Nat) where
  j : Nat
  out : List Int
  hj : j ≤ (l.getD k Dat.d0).acts.length
  hl : out.length = 8
  hr : ceilV l = ceilW (k + 1) (ceilA k out ((l.getD k Dat.d0).acts.drop j)) (l.drop (k + 1))
noncomputable def cCl : FuncId → Con := fun f => match f with
  | 19 => pureCon rpInt_C
  | _ => fun _ _ _ => Bad 1001
theorem cCl_ok : ConOk Try.prog cCl := fun f A H K h => by
  unfold cCl at h
  split at h
  · exact ⟨⟨Try.f19, Try.func19, by kernel_rfl, by kernel_rfl⟩, pureCon_ok rpInt_ok h⟩
  · cases h
def dCl0 : FuncId → Option Dt := fun f => match f with
  | 23 => some (.c conH_D)
  | _ => none
theorem dCl0_ok : DetOk Try.prog dCl0 := fun f d h => by
  unfold dCl0 at h
  split at h
  · cases h; exact ⟨⟨Try.f23, Try.func23, by kernel_rfl, by kernel_rfl⟩, conH_ok⟩
  · cases h
def ceilC_R (r : Th ((List Int))) : AV := .own 0 fun _ => (r ()).length
def ceilC_H (r : Th ((List Int))) : Hp := [vecO 3 fun _ => (r ())]
def ceilC_P (l : (List Work)) : Prop := lckV l = 0
def ceilC_C : PC := fun A K => match A with
  | [l] => Ob (fun _ => Leaf.ok (List Work) l ∧ ceilC_P (Leaf.val l)) (Gen (α := (List Int)) (fun _ => ceilV (Leaf.val l)) fun r => K (ceilC_R fun _ => r) (ceilC_H fun _ => r))
  | _ => Bad 1002
set_option maxRecDepth 100000 in
set_option maxHeartbeats 4000000 in
theorem ceilC_vc (l : (List Work)) (hp : ceilC_P l) : FnOk Try.prog 13 [Leaf.av fun _ => l] [] (outA (ceilC_R fun _ => ceilV l) (ceilC_H fun _ => ceilV l)) := by
  refine fn_ok envOk zl cCl_ok (draws_ok envOk zl dCl0_ok mixed) (keep := [0, 2, 3, 4, 5, 7, 10, 11, 12, 13, 18, 19, 20, 21, 34]) Try.func13 rfl ?_
  have hc : lckV l = 0 := hp
  have hc2 := (lck_iff.1 hc).1
  have hc3 : ∀ i, i < l.length → (l.getD i Dat.d0).acts.length ≤ 30 := fun i hi => ((lck_iff.1 hc).2 _ (getD_in hi)).1
  have fin : ∀ o d (n : Nat) kl H, ceilV l = d → n = d.length → outA (ceilC_R fun _ => ceilV l) (ceilC_H fun _ => ceilV l) (.own 1 fun _ => n) (o :: vecO 3 (fun _ => d) :: H) kl := fun o d n kl H h hn => by
    subst hn
    rw [h]
    cbv
    repeat' first | (refine Stp.mk ?_; cbv) | (refine Gen.mk fun r hr => ?_; (try simp only [Dat.ok, Dat.dec, Leaf.ok, Leaf.val, Act.eta, Work.eta, Locked.eta, val_sl, val_nil] at hr); cbv) | exact trivial | rfl | refine Both.mk ?_ ?_ | (refine Imp.mk fun h => ?_; (try dsimp only at h); (try simp only [nc, Int.toNat_natCast, ne_eq, zz] at h); (try simp only [nc] at h)) | refine Ob.mk ?_ ?_ | refine Chk.mk (by kernel_rfl) ?_ | refine Eq'.mk ?_ | (refine AllN.mk fun i hi => ?_; cbv) | (refine AllC.mk fun c hc hcm => ?_; (try dsimp only at hc); cbv) | (refine AllS.mk fun r hr => ?_; (try simp only [Dat.ok, Dat.dec, Leaf.ok, Leaf.val, Act.eta, Work.eta, Locked.eta, val_sl] at hr); cbv)
  generalize outA (ceilC_R fun _ => ceilV l) (ceilC_H fun _ => ceilV l) = K at fin ⊢
  cbv
  repeat' first | (show Stp _; exfalso; first | omega | (exact h ‹_›) | (exact absurd ‹_› h) | (exact Bool.false_ne_true (h.symm.trans (show _ = true by assumption)))) | (refine Stp.mk ?_; cbv) | (refine Gen.mk fun r hr => ?_; (try simp only [Dat.ok, Dat.dec, Leaf.ok, Leaf.val, Act.eta, Work.eta, Locked.eta, val_sl, val_nil] at hr); cbv) | exact trivial | rfl | refine Both.mk ?_ ?_ | (refine Imp.mk fun h => ?_; (try dsimp only at h); (try simp only [nc, Int.toNat_natCast, ne_eq, zz] at h); (try simp only [nc] at h)) | refine Ob.mk ?_ ?_ | refine Chk.mk (by kernel_rfl) ?_ | refine Eq'.mk ?_ | (refine AllN.mk fun i hi => ?_; cbv) | (refine AllC.mk fun c hc hcm => ?_; (try dsimp only at hc); cbv) | (refine AllS.mk fun r hr => ?_; (try simp only [Dat.ok, Dat.dec, Leaf.ok, Leaf.val, Act.eta, Work.eta, Locked.eta, val_sl] at hr); cbv)
  all_goals ((try dsimp only at *); (try simp only [nc, Int.toNat_natCast, ne_eq, zz] at *); (try simp only [nc] at *))
  all_goals try first
    | omega
    | exact ⟨⟨rfl, fun i hi => by trivial⟩, show 1 = 1 ∧ (0 : Int) ≤ 8 ∧ (8 : Int) ≤ 1000000 by omega⟩
  have e8 : r = List.replicate 8 (-1) := hr
  clear hr
  have r8 : r.length = 8 := by rw [e8]; rfl
  refine LoopVC.frame [4, 5, 7, 12, 13, 18, 19, 20, 21, 34] (ClX l) (fun x => [(12, .i .i64 fun _ => x.k)]) (fun x => [(1, vecO 3 fun _ => x.out)]) [] (fun x => l.length - x.k) ⟨0, List.replicate 8 (-1), Nat.zero_le _, rfl, rfl⟩ rfl (fun _ => rfl) ?_ ?_ fun ⟨k, out, hk, hl, hr⟩ => ?_
  · cbv
    repeat' first | (refine Stp.mk ?_; cbv) | (refine Gen.mk fun r hr => ?_; (try simp only [Dat.ok, Dat.dec, Leaf.ok, Leaf.val, Act.eta, Work.eta, Locked.eta, val_sl, val_nil] at hr); cbv) | exact trivial | rfl | refine Both.mk ?_ ?_ | (refine Imp.mk fun h => ?_; (try dsimp only at h); (try simp only [nc, Int.toNat_natCast, ne_eq, zz] at h); (try simp only [nc] at h)) | refine Ob.mk ?_ ?_ | refine Chk.mk (by kernel_rfl) ?_ | refine Eq'.mk ?_ | (refine AllN.mk fun i hi => ?_; cbv) | (refine AllC.mk fun c hc hcm => ?_; (try dsimp only at hc); cbv) | (refine AllS.mk fun r hr => ?_; (try simp only [Dat.ok, Dat.dec, Leaf.ok, Leaf.val, Act.eta, Work.eta, Locked.eta, val_sl] at hr); cbv)
  · cbv
    repeat' first | (refine Stp.mk ?_; cbv) | (refine Gen.mk fun r hr => ?_; (try simp only [Dat.ok, Dat.dec, Leaf.ok, Leaf.val, Act.eta, Work.eta, Locked.eta, val_sl, val_nil] at hr); cbv) | exact trivial | rfl | refine Both.mk ?_ ?_ | (refine Imp.mk fun h => ?_; (try dsimp only at h); (try simp only [nc, Int.toNat_natCast, ne_eq, zz] at h); (try simp only [nc] at h)) | refine Ob.mk ?_ ?_ | refine Chk.mk (by kernel_rfl) ?_ | refine Eq'.mk ?_ | (refine AllN.mk fun i hi => ?_; cbv) | (refine AllC.mk fun c hc hcm => ?_; (try dsimp only at hc); cbv) | (refine AllS.mk fun r hr => ?_; (try simp only [Dat.ok, Dat.dec, Leaf.ok, Leaf.val, Act.eta, Work.eta, Locked.eta, val_sl] at hr); cbv)
    all_goals (rw [e8]; try rfl)
  · cbv
    repeat' first | (show Stp _; exfalso; first | omega | (exact h ‹_›) | (exact absurd ‹_› h) | (exact Bool.false_ne_true (h.symm.trans (show _ = true by assumption)))) | (refine Stp.mk ?_; cbv) | (refine Gen.mk fun r hr => ?_; (try simp only [Dat.ok, Dat.dec, Leaf.ok, Leaf.val, Act.eta, Work.eta, Locked.eta, val_sl, val_nil] at hr); cbv) | exact trivial | rfl | refine Both.mk ?_ ?_ | (refine Imp.mk fun h => ?_; (try dsimp only at h); (try simp only [nc, Int.toNat_natCast, ne_eq, zz] at h); (try simp only [nc] at h)) | refine Ob.mk ?_ ?_ | refine Chk.mk (by kernel_rfl) ?_ | refine Eq'.mk ?_ | (refine AllN.mk fun i hi => ?_; cbv) | (refine AllC.mk fun c hc hcm => ?_; (try dsimp only at hc); cbv) | (refine AllS.mk fun r hr => ?_; (try simp only [Dat.ok, Dat.dec, Leaf.ok, Leaf.val, Act.eta, Work.eta, Locked.eta, val_sl] at hr); cbv)
    all_goals ((try dsimp only at *); (try simp only [nc, Int.toNat_natCast, ne_eq, zz] at *); (try simp only [nc] at *))
    all_goals try rw [nc] at *
    all_goals try first
      | omega
      | (unfold InR; omega)
      | (refine fin _ out _ _ _ ?_ (by omega)
         rw [hr, List.drop_eq_nil_of_le (by omega)]
         rfl)
    have hk2 : k < l.length := by omega
    have e0 : ceilV l = ceilW (k + 1) (ceilA k out ((l.getD k Dat.d0).acts.drop 0)) (l.drop (k + 1)) := by rw [hr, drop_cons Dat.d0 hk2, ceilW, List.drop_zero]
    have h30 := hc3 k hk2
    refine LoopVC.frame [7, 20, 21, 34] (CaX l k) (fun x => [(20, .i .i64 fun _ => x.j)]) (fun x => [(1, vecO 3 fun _ => x.out)]) [] (fun x => (l.getD k Dat.d0).acts.length - x.j) ⟨0, out, Nat.zero_le _, hl, e0⟩ rfl (fun _ => rfl) ?_ ?_ fun ⟨j, out, hj, hl, hr⟩ => ?_
    iterate 2
      · cbv
        repeat' first | (refine Stp.mk ?_; cbv) | (refine Gen.mk fun r hr => ?_; (try simp only [Dat.ok, Dat.dec, Leaf.ok, Leaf.val, Act.eta, Work.eta, Locked.eta, val_sl, val_nil] at hr); cbv) | exact trivial | rfl | refine Both.mk ?_ ?_ | (refine Imp.mk fun h => ?_; (try dsimp only at h); (try simp only [nc, Int.toNat_natCast, ne_eq, zz] at h); (try simp only [nc] at h)) | refine Ob.mk ?_ ?_ | refine Chk.mk (by kernel_rfl) ?_ | refine Eq'.mk ?_ | (refine AllN.mk fun i hi => ?_; cbv) | (refine AllC.mk fun c hc hcm => ?_; (try dsimp only at hc); cbv) | (refine AllS.mk fun r hr => ?_; (try simp only [Dat.ok, Dat.dec, Leaf.ok, Leaf.val, Act.eta, Work.eta, Locked.eta, val_sl] at hr); cbv)
    · have hta := fun hj2 => lck_take hc hk2 (j := j) hj2
      have e1 : ∀ o, j < (l.getD k Dat.d0).acts.length → (if ((l.getD k Dat.d0).acts.getD j Dat.d0).kind = 2 ∧ out.getD ((l.getD k Dat.d0).acts.getD j Dat.d0).n.toNat 0 < 0 then out.set ((l.getD k Dat.d0).acts.getD j Dat.d0).n.toNat (k : Int) else out) = o →
          ceilV l = ceilW (k + 1) (ceilA k o ((l.getD k Dat.d0).acts.drop (j + 1))) (l.drop (k + 1)) := fun o hj2 h => by rw [hr, drop_cons Dat.d0 hj2, ceilA, h]
      cbv
      repeat' first | (show Stp _; exfalso; first | omega | (exact h ‹_›) | (exact absurd ‹_› h) | (exact Bool.false_ne_true (h.symm.trans (show _ = true by assumption)))) | (refine Stp.mk ?_; cbv) | (refine Gen.mk fun r hr => ?_; (try simp only [Dat.ok, Dat.dec, Leaf.ok, Leaf.val, Act.eta, Work.eta, Locked.eta, val_sl, val_nil] at hr); cbv) | exact trivial | rfl | refine Both.mk ?_ ?_ | (refine Imp.mk fun h => ?_; (try dsimp only at h); (try simp only [nc, Int.toNat_natCast, ne_eq, zz] at h); (try simp only [nc] at h)) | refine Ob.mk ?_ ?_ | refine Chk.mk (by kernel_rfl) ?_ | refine Eq'.mk ?_ | (refine AllN.mk fun i hi => ?_; cbv) | (refine AllC.mk fun c hc hcm => ?_; (try dsimp only at hc); cbv) | (refine AllS.mk fun r hr => ?_; (try simp only [Dat.ok, Dat.dec, Leaf.ok, Leaf.val, Act.eta, Work.eta, Locked.eta, val_sl] at hr); cbv)
      all_goals ((try dsimp only at *); (try simp only [nc, Int.toNat_natCast, ne_eq, zz] at *); (try simp only [nc] at *))
      all_goals try rw [nc] at *
      all_goals first
        | omega
        | (unfold InR; omega)
        | (have := hta (by omega) (by assumption); omega)
        | (have hj2 : j < (l.getD k Dat.d0).acts.length := by omega
           have h2 := hta hj2 (by assumption)
           have c : ((l.getD k Dat.d0).acts.getD j Dat.d0).kind = 2 ∧ out.getD ((l.getD k Dat.d0).acts.getD j Dat.d0).n.toNat 0 < 0 := ⟨by assumption, by assumption⟩
           refine ⟨⟨j + 1, out.set ((l.getD k Dat.d0).acts.getD j Dat.d0).n.toNat (k : Int), by omega, by rw [List.length_set]; exact hl, e1 _ hj2 (if_pos c)⟩, ?_, ?_, rfl, by (try dsimp only); omega⟩
           · cbv
             repeat' first | (refine Stp.mk ?_; cbv) | (refine Gen.mk fun r hr => ?_; (try simp only [Dat.ok, Dat.dec, Leaf.ok, Leaf.val, Act.eta, Work.eta, Locked.eta, val_sl, val_nil] at hr); cbv) | exact trivial | rfl | refine Both.mk ?_ ?_ | (refine Imp.mk fun h => ?_; (try dsimp only at h); (try simp only [nc, Int.toNat_natCast, ne_eq, zz] at h); (try simp only [nc] at h)) | refine Ob.mk ?_ ?_ | refine Chk.mk (by kernel_rfl) ?_ | refine Eq'.mk ?_ | (refine AllN.mk fun i hi => ?_; cbv) | (refine AllC.mk fun c hc hcm => ?_; (try dsimp only at hc); cbv) | (refine AllS.mk fun r hr => ?_; (try simp only [Dat.ok, Dat.dec, Leaf.ok, Leaf.val, Act.eta, Work.eta, Locked.eta, val_sl] at hr); cbv)
           · cbv
             repeat' first | (refine Stp.mk ?_; cbv) | (refine Gen.mk fun r hr => ?_; (try simp only [Dat.ok, Dat.dec, Leaf.ok, Leaf.val, Act.eta, Work.eta, Locked.eta, val_sl, val_nil] at hr); cbv) | exact trivial | rfl | refine Both.mk ?_ ?_ | (refine Imp.mk fun h => ?_; (try dsimp only at h); (try simp only [nc, Int.toNat_natCast, ne_eq, zz] at h); (try simp only [nc] at h)) | refine Ob.mk ?_ ?_ | refine Chk.mk (by kernel_rfl) ?_ | refine Eq'.mk ?_ | (refine AllN.mk fun i hi => ?_; cbv) | (refine AllC.mk fun c hc hcm => ?_; (try dsimp only at hc); cbv) | (refine AllS.mk fun r hr => ?_; (try simp only [Dat.ok, Dat.dec, Leaf.ok, Leaf.val, Act.eta, Work.eta, Locked.eta, val_sl] at hr); cbv)
             all_goals ((try dsimp only at *); (try simp only [nc, Int.toNat_natCast, ne_eq, zz] at *); (try simp only [nc] at *))
             all_goals first | rfl | (exact (List.length_set ..).symm) | (exact set_cond (by omega)) | fail)
        | (have hj2 : j < (l.getD k Dat.d0).acts.length := by omega
           have c : ¬ (((l.getD k Dat.d0).acts.getD j Dat.d0).kind = 2 ∧ out.getD ((l.getD k Dat.d0).acts.getD j Dat.d0).n.toNat 0 < 0) := by
             rintro ⟨c1, c2⟩
             first | omega | (exact absurd c2 (Int.not_lt.2 (by assumption)))
           refine ⟨⟨j + 1, out, by omega, hl, e1 _ hj2 (if_neg c)⟩, ?_, ?_, rfl, by (try dsimp only); omega⟩
           · cbv
             repeat' first | (refine Stp.mk ?_; cbv) | (refine Gen.mk fun r hr => ?_; (try simp only [Dat.ok, Dat.dec, Leaf.ok, Leaf.val, Act.eta, Work.eta, Locked.eta, val_sl, val_nil] at hr); cbv) | exact trivial | rfl | refine Both.mk ?_ ?_ | (refine Imp.mk fun h => ?_; (try dsimp only at h); (try simp only [nc, Int.toNat_natCast, ne_eq, zz] at h); (try simp only [nc] at h)) | refine Ob.mk ?_ ?_ | refine Chk.mk (by kernel_rfl) ?_ | refine Eq'.mk ?_ | (refine AllN.mk fun i hi => ?_; cbv) | (refine AllC.mk fun c hc hcm => ?_; (try dsimp only at hc); cbv) | (refine AllS.mk fun r hr => ?_; (try simp only [Dat.ok, Dat.dec, Leaf.ok, Leaf.val, Act.eta, Work.eta, Locked.eta, val_sl] at hr); cbv)
           · cbv
             repeat' first | (refine Stp.mk ?_; cbv) | (refine Gen.mk fun r hr => ?_; (try simp only [Dat.ok, Dat.dec, Leaf.ok, Leaf.val, Act.eta, Work.eta, Locked.eta, val_sl, val_nil] at hr); cbv) | exact trivial | rfl | refine Both.mk ?_ ?_ | (refine Imp.mk fun h => ?_; (try dsimp only at h); (try simp only [nc, Int.toNat_natCast, ne_eq, zz] at h); (try simp only [nc] at h)) | refine Ob.mk ?_ ?_ | refine Chk.mk (by kernel_rfl) ?_ | refine Eq'.mk ?_ | (refine AllN.mk fun i hi => ?_; cbv) | (refine AllC.mk fun c hc hcm => ?_; (try dsimp only at hc); cbv) | (refine AllS.mk fun r hr => ?_; (try simp only [Dat.ok, Dat.dec, Leaf.ok, Leaf.val, Act.eta, Work.eta, Locked.eta, val_sl] at hr); cbv)
             all_goals ((try dsimp only at *); (try simp only [nc, Int.toNat_natCast, ne_eq, zz] at *); (try simp only [nc] at *))
             all_goals first | rfl | omega | fail)
        | (have e := hr
           rw [show (l.getD k Dat.d0).acts.drop j = [] from List.drop_eq_nil_of_le (by omega)] at e
           have e2 : ceilV l = ceilW ((k + 1 : Nat) : Int) out (l.drop (k + 1)) := e
           refine ⟨⟨k + 1, out, by omega, hl, e2⟩, ?_, ?_, rfl, by (try dsimp only); omega⟩
           · cbv
             repeat' first | (refine Stp.mk ?_; cbv) | (refine Gen.mk fun r hr => ?_; (try simp only [Dat.ok, Dat.dec, Leaf.ok, Leaf.val, Act.eta, Work.eta, Locked.eta, val_sl, val_nil] at hr); cbv) | exact trivial | rfl | refine Both.mk ?_ ?_ | (refine Imp.mk fun h => ?_; (try dsimp only at h); (try simp only [nc, Int.toNat_natCast, ne_eq, zz] at h); (try simp only [nc] at h)) | refine Ob.mk ?_ ?_ | refine Chk.mk (by kernel_rfl) ?_ | refine Eq'.mk ?_ | (refine AllN.mk fun i hi => ?_; cbv) | (refine AllC.mk fun c hc hcm => ?_; (try dsimp only at hc); cbv) | (refine AllS.mk fun r hr => ?_; (try simp only [Dat.ok, Dat.dec, Leaf.ok, Leaf.val, Act.eta, Work.eta, Locked.eta, val_sl] at hr); cbv)
           · cbv
             repeat' first | (refine Stp.mk ?_; cbv) | (refine Gen.mk fun r hr => ?_; (try simp only [Dat.ok, Dat.dec, Leaf.ok, Leaf.val, Act.eta, Work.eta, Locked.eta, val_sl, val_nil] at hr); cbv) | exact trivial | rfl | refine Both.mk ?_ ?_ | (refine Imp.mk fun h => ?_; (try dsimp only at h); (try simp only [nc, Int.toNat_natCast, ne_eq, zz] at h); (try simp only [nc] at h)) | refine Ob.mk ?_ ?_ | refine Chk.mk (by kernel_rfl) ?_ | refine Eq'.mk ?_ | (refine AllN.mk fun i hi => ?_; cbv) | (refine AllC.mk fun c hc hcm => ?_; (try dsimp only at hc); cbv) | (refine AllS.mk fun r hr => ?_; (try simp only [Dat.ok, Dat.dec, Leaf.ok, Leaf.val, Act.eta, Work.eta, Locked.eta, val_sl] at hr); cbv)
             all_goals ((try dsimp only at *); (try simp only [nc, Int.toNat_natCast, ne_eq, zz] at *); (try simp only [nc] at *))
             all_goals first | rfl | omega | fail)
theorem ceilC_ok : PcOk Try.prog 13 (ceilC_C) := fun A K h => by
  unfold ceilC_C at h
  split at h
  · rename_i l
    cases h with
    | mk h1 h2 =>
      obtain ⟨g0, hp⟩ := h1
      refine FnOk.pre ?_ (A' := [Leaf.av fun _ => (Leaf.val l : (List Work))]) (.mk (Leaf.hle _ g0) (trivial))
      exact FnOk.out (K := fun r H _ => K r H) (ceilC_vc (Leaf.val l) hp) rfl h2.out
  · cases h

end Go.Proofs.Ythbdlihmafcioaa
