/- slices.DeleteFunc of wants of others: walked. -/
import Derived.Test.YtnjngpjkhddnfaaGreatDoorConfF
import Derived.Test.YtnjngpjkhddnfaaGreatDoorPreL
import Derived.Test.YtnjngpjkhddnfaaGreatDoorAbsG4
set_option linter.all false
namespace Go.Proofs.YtnjngpjkhddnfaaGreatDoor
open Go Go.Abs

def kpB (o : Int) (w : Want) : Bool := decide (w.owner = o)
noncomputable def cV0 : FuncId → Con := fun f => match f with
 | 14 => inlCon E noCon noDraws [0, 1, 2, 3] Tryz.f14
 | _ => fun _ _ _ => Bad 1001
theorem cV0_ok : ConOk Tryz.prog cV0 := fun f A H K h => by
 unfold cV0 at h
 split at h
 · exact ⟨⟨Tryz.f14, Tryz.func14, by kernel_rfl, by kernel_rfl⟩, inl_ok envOk zl noCon_ok noDraws_ok Tryz.func14 h⟩
 · cases h
noncomputable def cV1 : FuncId → Con := fun f => match f with
 | 25 => inlCon E cV0 noDraws [0, 1, 4, 5, 7, 8, 9, 16] Tryz.f25
 | 14 => inlCon E noCon noDraws [0, 1, 2, 3] Tryz.f14
 | _ => fun _ _ _ => Bad 1001
theorem cV1_ok : ConOk Tryz.prog cV1 := fun f A H K h => by
 unfold cV1 at h
 split at h
 · exact ⟨⟨Tryz.f25, Tryz.func25, by kernel_rfl, by kernel_rfl⟩, inl_ok envOk zl cV0_ok noDraws_ok Tryz.func25 h⟩
 · exact ⟨⟨Tryz.f14, Tryz.func14, by kernel_rfl, by kernel_rfl⟩, inl_ok envOk zl noCon_ok noDraws_ok Tryz.func14 h⟩
 · cases h
structure IfV (o : Int) (l : List Want) where
 k : Nat
 hk : k ≤ l.length
 h1 : ∀ i, i < k → kpB o (l.getD i Dat.d0) = true
structure DfV (o : Int) (l : List Want) where
 j : Nat
 hj : j ≤ l.length
 c : List Want
 hc : c.length = l.length
 w : Nat
 hw : w < j
 h0 : w = ((l.take j).filter (kpB o)).length
 h1 : c.take w = (l.take j).filter (kpB o)
 h2 : ∀ i, j ≤ i → c.getD i Dat.d0 = l.getD i Dat.d0
theorem kp_f {o : Int} {s : Want} (h : ¬ s.owner = o) : kpB o s = false := decide_eq_false h
theorem kp_t {o : Int} {s : Want} (h : s.owner = o) : kpB o s = true := decide_eq_true h
theorem take_snV {l : List Want} {j : Nat} (h : j < l.length) : l.take (j + 1) = l.take j ++ [l.getD j Dat.d0] := by
 rw [List.take_add_one, List.getElem?_eq_getElem h, List.getD_eq_getElem?_getD, List.getElem?_eq_getElem h]; rfl
theorem filt_allV {o : Int} {l : List Want} {k : Nat} (hk : k ≤ l.length) (h : ∀ i, i < k → kpB o (l.getD i Dat.d0) = true) : (l.take k).filter (kpB o) = l.take k := by
 rw [List.filter_eq_self]
 intro x hx
 obtain ⟨i, hi, rfl⟩ := List.mem_iff_getElem.1 hx
 have hi2 : i < k := by rw [List.length_take] at hi; omega
 have := h i hi2
 rw [List.getD_eq_getElem?_getD, List.getElem?_eq_getElem (by omega)] at this
 simpa using this
theorem dv_drop {o : Int} {l : List Want} (x : DfV o l) (h : x.j < l.length) (hb : kpB o (l.getD x.j Dat.d0) = false) : ((l.take (x.j + 1)).filter (kpB o)) = (l.take x.j).filter (kpB o) := by
 rw [take_snV h, List.filter_append, List.filter_cons_of_neg (by rw [hb]; exact Bool.false_ne_true), List.filter_nil, List.append_nil]
theorem dv_keep {o : Int} {l : List Want} (x : DfV o l) (h : x.j < l.length) (hb : kpB o (l.getD x.j Dat.d0) = true) : ((l.take (x.j + 1)).filter (kpB o)) = (l.take x.j).filter (kpB o) ++ [l.getD x.j Dat.d0] := by
 rw [take_snV h, List.filter_append, List.filter_cons_of_pos hb, List.filter_nil]
def DfV.drop {o : Int} {l : List Want} (x : DfV o l) (h : x.j < l.length) (hb : kpB o (l.getD x.j Dat.d0) = false) : DfV o l :=
 ⟨x.j + 1, h, x.c, x.hc, x.w, Nat.lt_succ_of_lt x.hw, by rw [dv_drop x h hb]; exact x.h0, by rw [dv_drop x h hb]; exact x.h1, fun i hi => x.h2 i (by omega)⟩
def DfV.keep {o : Int} {l : List Want} (x : DfV o l) (h : x.j < l.length) (hb : kpB o (l.getD x.j Dat.d0) = true) : DfV o l :=
 ⟨x.j + 1, h, x.c.set x.w (l.getD x.j Dat.d0), by rw [List.length_set]; exact x.hc, x.w + 1, Nat.succ_lt_succ x.hw, by
   rw [dv_keep x h hb, List.length_append, ← x.h0]; rfl, by
   have hl : x.w < (x.c.set x.w (l.getD x.j Dat.d0)).length := by rw [List.length_set, x.hc]; have := x.hw; omega
   rw [dv_keep x h hb, take_snV hl, List.take_set_of_le (Nat.le_refl _), x.h1, List.getD_eq_getElem?_getD (l := x.c.set _ _), List.getElem?_set_self (by rw [List.length_set] at hl; exact hl)]; rfl, fun i hi => by
   rw [List.getD_eq_getElem?_getD, List.getElem?_set_ne (by have := x.hw; omega), ← List.getD_eq_getElem?_getD]
   exact x.h2 i (by omega)⟩
theorem dv_end {o : Int} {l : List Want} (x : DfV o l) (h : l.length ≤ x.j) : x.w = (l.filter (kpB o)).length ∧ ∀ i, i < x.w → x.c.getD i Dat.d0 = (l.filter (kpB o)).getD i Dat.d0 := by
 have e : l.take x.j = l := List.take_of_length_le h
 have h0 := x.h0
 have h1 := x.h1
 rw [e] at h0 h1
 refine ⟨h0, fun i hi => ?_⟩
 rw [← h1, List.getD_eq_getElem?_getD, List.getD_eq_getElem?_getD, List.getElem?_take, if_pos hi]
theorem set_bifV {c : List Want} {w i : Nat} {v : Want} (hw : w < c.length) : (bif decide (i = w) then v else c.getD i Dat.d0) = (c.set w v).getD i Dat.d0 := by
 by_cases h : i = w
 · subst h
   rw [decide_eq_true rfl, cond_true, List.getD_eq_getElem?_getD, List.getElem?_set_self hw]; rfl
 · rw [decide_eq_false h, cond_false, List.getD_eq_getElem?_getD, List.getD_eq_getElem?_getD, List.getElem?_set_ne (fun q => h q.symm)]
def dVd : FuncId → Option Dt := fun f => match f with
 | _ => none
theorem dVd_ok : DetOk Tryz.prog dVd := fun f d h => by
 unfold dVd at h
 split at h
 · cases h
set_option maxRecDepth 100000 in
set_option maxHeartbeats 4000000 in
theorem delV_vc (o : Int) (l : List Want) (hp : l.length ≤ 4611686018427387903) : FnOk Tryz.prog 13 [.own 0 fun _ => l.length, .fn 14 [.ptr 1 0]] [vecO 28 fun _ => l, .blk [.i .i64 fun _ => o]] (outLe 2 (.own 0 fun _ => (l.filter (kpB o)).length) [vecO 28 fun _ => l.filter (kpB o), .blk [.i .i64 fun _ => o]] []) := by
 generalize hK : outLe 2 (.own 0 fun _ => (l.filter (kpB o)).length) [vecO 28 fun _ => l.filter (kpB o), .blk [.i .i64 fun _ => o]] [] = K
 refine fn_ok envOk zl cV1_ok (draws_ok envOk zl dVd_ok mixed) (keep := [0, 1, 4, 5, 6, 7, 12, 19, 29]) Tryz.func13 rfl ?_
 cbv
 repeat' first | (show Stp _; exfalso; first | omega | (exact h ‹_›) | (exact absurd ‹_› h) | (exact Bool.false_ne_true (h.symm.trans (show _ = true by assumption)))) | (refine Stp.mk ?_; cbv) | (refine Gen.mk fun r hr => ?_; (try simp only [Dat.ok, Dat.dec, Leaf.ok, Leaf.val, Z0, Z1, Z2, Z3, Z4, Z5, Z6, Z7, val_sl, val_nil] at hr); cbv) | exact trivial | rfl | refine Both.mk ?_ ?_ | (refine Imp.mk fun h => ?_; (try dsimp only at h); (try simp only [nc, Int.toNat_natCast, ne_eq, zz] at h); (try simp only [nc] at h)) | refine Ob.mk ?_ ?_ | refine Chk.mk (by kernel_rfl) ?_ | refine Eq'.mk ?_ | (refine AllN.mk fun i hi => ?_; cbv) | (refine AllC.mk fun c hc hcm => ?_; (try dsimp only at hc); cbv) | (refine AllS.mk fun r hr => ?_; (try simp only [Dat.ok, Dat.dec, Leaf.ok, Leaf.val, Z0, Z1, Z2, Z3, Z4, Z5, Z6, Z7, val_sl] at hr); cbv)
 all_goals ((try dsimp only at *); (try simp only [nc, Int.toNat_natCast, ne_eq, zz] at *); (try simp only [nc] at *))
 refine LoopVC.frame [4, 5, 8, 9, 16] (IfV o l) (fun x => [(8, .i .i64 fun _ => x.k)]) (fun _ => [(0, vecO 28 fun _ => l)]) [] (fun x => l.length - x.k) ⟨0, Nat.zero_le _, fun _ h => absurd h (Nat.not_lt_zero _)⟩ rfl (fun _ => rfl) ?_ ?_ fun ⟨k, hk, h1⟩ => ?_
 · cbv
   repeat' first | (refine Stp.mk ?_; cbv) | (refine Gen.mk fun r hr => ?_; (try simp only [Dat.ok, Dat.dec, Leaf.ok, Leaf.val, Z0, Z1, Z2, Z3, Z4, Z5, Z6, Z7, val_sl, val_nil] at hr); cbv) | exact trivial | rfl | refine Both.mk ?_ ?_ | (refine Imp.mk fun h => ?_; (try dsimp only at h); (try simp only [nc, Int.toNat_natCast, ne_eq, zz] at h); (try simp only [nc] at h)) | refine Ob.mk ?_ ?_ | refine Chk.mk (by kernel_rfl) ?_ | refine Eq'.mk ?_ | (refine AllN.mk fun i hi => ?_; cbv) | (refine AllC.mk fun c hc hcm => ?_; (try dsimp only at hc); cbv) | (refine AllS.mk fun r hr => ?_; (try simp only [Dat.ok, Dat.dec, Leaf.ok, Leaf.val, Z0, Z1, Z2, Z3, Z4, Z5, Z6, Z7, val_sl] at hr); cbv)
   all_goals fail
 · cbv
   repeat' first | (refine Stp.mk ?_; cbv) | (refine Gen.mk fun r hr => ?_; (try simp only [Dat.ok, Dat.dec, Leaf.ok, Leaf.val, Z0, Z1, Z2, Z3, Z4, Z5, Z6, Z7, val_sl, val_nil] at hr); cbv) | exact trivial | rfl | refine Both.mk ?_ ?_ | (refine Imp.mk fun h => ?_; (try dsimp only at h); (try simp only [nc, Int.toNat_natCast, ne_eq, zz] at h); (try simp only [nc] at h)) | refine Ob.mk ?_ ?_ | refine Chk.mk (by kernel_rfl) ?_ | refine Eq'.mk ?_ | (refine AllN.mk fun i hi => ?_; cbv) | (refine AllC.mk fun c hc hcm => ?_; (try dsimp only at hc); cbv) | (refine AllS.mk fun r hr => ?_; (try simp only [Dat.ok, Dat.dec, Leaf.ok, Leaf.val, Z0, Z1, Z2, Z3, Z4, Z5, Z6, Z7, val_sl] at hr); cbv)
   all_goals fail
 have hk9 : k ≤ l.length := hk
 have h19 := h1
 cbv
 repeat' first | (show Stp _; exfalso; first | omega | (exact h ‹_›) | (exact absurd ‹_› h) | (exact Bool.false_ne_true (h.symm.trans (show _ = true by assumption)))) | (refine Stp.mk ?_; cbv) | (refine Gen.mk fun r hr => ?_; (try simp only [Dat.ok, Dat.dec, Leaf.ok, Leaf.val, Z0, Z1, Z2, Z3, Z4, Z5, Z6, Z7, val_sl, val_nil] at hr); cbv) | exact trivial | rfl | refine Both.mk ?_ ?_ | (refine Imp.mk fun h => ?_; (try dsimp only at h); (try simp only [nc, Int.toNat_natCast, ne_eq, zz] at h); (try simp only [nc] at h)) | refine Ob.mk ?_ ?_ | refine Chk.mk (by kernel_rfl) ?_ | refine Eq'.mk ?_ | (refine AllN.mk fun i hi => ?_; cbv) | (refine AllC.mk fun c hc hcm => ?_; (try dsimp only at hc); cbv) | (refine AllS.mk fun r hr => ?_; (try simp only [Dat.ok, Dat.dec, Leaf.ok, Leaf.val, Z0, Z1, Z2, Z3, Z4, Z5, Z6, Z7, val_sl] at hr); cbv)
 all_goals ((try dsimp only at *); (try simp only [nc, Int.toNat_natCast, ne_eq, zz] at *); (try simp only [nc] at *))
 all_goals try rw [nc] at *
 all_goals try simp only [Dat.dec, Leaf.val, Z0, Z1, Z2, Z3, Z4, Z5, Z6, Z7, val_sl] at *
 all_goals try first
   | exact ⟨by omega, by omega⟩
   | (unfold InR; omega)
   | (exfalso; exact absurd trivial (by assumption))
   | (refine ⟨⟨k + 1, by omega, fun i hi => by
        rcases Nat.lt_or_ge i k with q | q
        · exact h19 i q
        · have e : i = k := by omega
          rw [e]; exact kp_t (by assumption)⟩, ?_, ?_, rfl, by (try dsimp only); omega⟩
      · cbv
        repeat' first | (refine Stp.mk ?_; cbv) | (refine Gen.mk fun r hr => ?_; (try simp only [Dat.ok, Dat.dec, Leaf.ok, Leaf.val, Z0, Z1, Z2, Z3, Z4, Z5, Z6, Z7, val_sl, val_nil] at hr); cbv) | exact trivial | rfl | refine Both.mk ?_ ?_ | (refine Imp.mk fun h => ?_; (try dsimp only at h); (try simp only [nc, Int.toNat_natCast, ne_eq, zz] at h); (try simp only [nc] at h)) | refine Ob.mk ?_ ?_ | refine Chk.mk (by kernel_rfl) ?_ | refine Eq'.mk ?_ | (refine AllN.mk fun i hi => ?_; cbv) | (refine AllC.mk fun c hc hcm => ?_; (try dsimp only at hc); cbv) | (refine AllS.mk fun r hr => ?_; (try simp only [Dat.ok, Dat.dec, Leaf.ok, Leaf.val, Z0, Z1, Z2, Z3, Z4, Z5, Z6, Z7, val_sl] at hr); cbv)
      · cbv
        repeat' first | (refine Stp.mk ?_; cbv) | (refine Gen.mk fun r hr => ?_; (try simp only [Dat.ok, Dat.dec, Leaf.ok, Leaf.val, Z0, Z1, Z2, Z3, Z4, Z5, Z6, Z7, val_sl, val_nil] at hr); cbv) | exact trivial | rfl | refine Both.mk ?_ ?_ | (refine Imp.mk fun h => ?_; (try dsimp only at h); (try simp only [nc, Int.toNat_natCast, ne_eq, zz] at h); (try simp only [nc] at h)) | refine Ob.mk ?_ ?_ | refine Chk.mk (by kernel_rfl) ?_ | refine Eq'.mk ?_ | (refine AllN.mk fun i hi => ?_; cbv) | (refine AllC.mk fun c hc hcm => ?_; (try dsimp only at hc); cbv) | (refine AllS.mk fun r hr => ?_; (try simp only [Dat.ok, Dat.dec, Leaf.ok, Leaf.val, Z0, Z1, Z2, Z3, Z4, Z5, Z6, Z7, val_sl] at hr); cbv))
   | (have e : l.filter (kpB o) = l := by
        have := filt_allV (l := l) (Nat.le_refl _) fun i hi => h19 i (by omega)
        rwa [List.take_length] at this
      subst hK
      rw [e]
      cbv
      repeat' first | (refine Stp.mk ?_; cbv) | (refine Gen.mk fun r hr => ?_; (try simp only [Dat.ok, Dat.dec, Leaf.ok, Leaf.val, Z0, Z1, Z2, Z3, Z4, Z5, Z6, Z7, val_sl, val_nil] at hr); cbv) | exact trivial | rfl | refine Both.mk ?_ ?_ | (refine Imp.mk fun h => ?_; (try dsimp only at h); (try simp only [nc, Int.toNat_natCast, ne_eq, zz] at h); (try simp only [nc] at h)) | refine Ob.mk ?_ ?_ | refine Chk.mk (by kernel_rfl) ?_ | refine Eq'.mk ?_ | (refine AllN.mk fun i hi => ?_; cbv) | (refine AllC.mk fun c hc hcm => ?_; (try dsimp only at hc); cbv) | (refine AllS.mk fun r hr => ?_; (try simp only [Dat.ok, Dat.dec, Leaf.ok, Leaf.val, Z0, Z1, Z2, Z3, Z4, Z5, Z6, Z7, val_sl] at hr); cbv))
   | omega
 have kl : k < l.length := by omega
 have hb : kpB o (l.getD k Dat.d0) = false := kp_f (by assumption)
 have ht : (l.take (k + 1)).filter (kpB o) = l.take k := by
   rw [take_snV kl, List.filter_append, List.filter_cons_of_neg (by rw [hb]; exact Bool.false_ne_true), List.filter_nil, List.append_nil, filt_allV hk h1]
 have htl : (l.take k).length = k := by rw [List.length_take]; omega
 refine LoopVC.frame [5, 6, 7, 19, 29] (DfV o l) (fun x => [(5, .i .i64 fun _ => x.w), (6, .i .i64 fun _ => x.j)]) (fun x => [(0, vecO 28 fun _ => x.c)]) [] (fun x => l.length - x.j) ⟨k + 1, kl, l, rfl, k, Nat.lt_succ_self _, by rw [ht, htl], by rw [ht], fun _ _ => rfl⟩ rfl (fun _ => rfl) ?_ ?_ fun x => ?_
 · cbv
   repeat' first | (refine Stp.mk ?_; cbv) | (refine Gen.mk fun r hr => ?_; (try simp only [Dat.ok, Dat.dec, Leaf.ok, Leaf.val, Z0, Z1, Z2, Z3, Z4, Z5, Z6, Z7, val_sl, val_nil] at hr); cbv) | exact trivial | rfl | refine Both.mk ?_ ?_ | (refine Imp.mk fun h => ?_; (try dsimp only at h); (try simp only [nc, Int.toNat_natCast, ne_eq, zz] at h); (try simp only [nc] at h)) | refine Ob.mk ?_ ?_ | refine Chk.mk (by kernel_rfl) ?_ | refine Eq'.mk ?_ | (refine AllN.mk fun i hi => ?_; cbv) | (refine AllC.mk fun c hc hcm => ?_; (try dsimp only at hc); cbv) | (refine AllS.mk fun r hr => ?_; (try simp only [Dat.ok, Dat.dec, Leaf.ok, Leaf.val, Z0, Z1, Z2, Z3, Z4, Z5, Z6, Z7, val_sl] at hr); cbv)
   all_goals fail
 · cbv
   repeat' first | (refine Stp.mk ?_; cbv) | (refine Gen.mk fun r hr => ?_; (try simp only [Dat.ok, Dat.dec, Leaf.ok, Leaf.val, Z0, Z1, Z2, Z3, Z4, Z5, Z6, Z7, val_sl, val_nil] at hr); cbv) | exact trivial | rfl | refine Both.mk ?_ ?_ | (refine Imp.mk fun h => ?_; (try dsimp only at h); (try simp only [nc, Int.toNat_natCast, ne_eq, zz] at h); (try simp only [nc] at h)) | refine Ob.mk ?_ ?_ | refine Chk.mk (by kernel_rfl) ?_ | refine Eq'.mk ?_ | (refine AllN.mk fun i hi => ?_; cbv) | (refine AllC.mk fun c hc hcm => ?_; (try dsimp only at hc); cbv) | (refine AllS.mk fun r hr => ?_; (try simp only [Dat.ok, Dat.dec, Leaf.ok, Leaf.val, Z0, Z1, Z2, Z3, Z4, Z5, Z6, Z7, val_sl] at hr); cbv)
   all_goals fail
 have hj := x.hj
 have hc := x.hc
 have hw := x.hw
 cbv
 repeat' first | (show Stp _; exfalso; first | omega | (exact h ‹_›) | (exact absurd ‹_› h) | (exact Bool.false_ne_true (h.symm.trans (show _ = true by assumption)))) | (refine Stp.mk ?_; cbv) | (refine Gen.mk fun r hr => ?_; (try simp only [Dat.ok, Dat.dec, Leaf.ok, Leaf.val, Z0, Z1, Z2, Z3, Z4, Z5, Z6, Z7, val_sl, val_nil] at hr); cbv) | exact trivial | rfl | refine Both.mk ?_ ?_ | (refine Imp.mk fun h => ?_; (try dsimp only at h); (try simp only [nc, Int.toNat_natCast, ne_eq, zz] at h); (try simp only [nc] at h)) | refine Ob.mk ?_ ?_ | refine Chk.mk (by kernel_rfl) ?_ | refine Eq'.mk ?_ | (refine AllN.mk fun i hi => ?_; cbv) | (refine AllC.mk fun c hc hcm => ?_; (try dsimp only at hc); cbv) | (refine AllS.mk fun r hr => ?_; (try simp only [Dat.ok, Dat.dec, Leaf.ok, Leaf.val, Z0, Z1, Z2, Z3, Z4, Z5, Z6, Z7, val_sl] at hr); cbv)
 all_goals ((try dsimp only at *); (try simp only [nc, Int.toNat_natCast, ne_eq, zz] at *); (try simp only [nc] at *))
 all_goals try rw [nc] at *
 all_goals try simp only [Dat.dec, Leaf.val, Z0, Z1, Z2, Z3, Z4, Z5, Z6, Z7, val_sl] at *
 all_goals first
   | omega
   | exact ⟨by omega, by omega⟩
   | exact ⟨by omega, by omega, by omega⟩
   | exact ⟨trivial, by omega, by omega⟩
   | (unfold InR; omega)
   | (have hjl : x.j < l.length := by omega
      have hn : (x.c.getD x.j Dat.d0).owner = o := by assumption
      have e : x.c.getD x.j Dat.d0 = l.getD x.j Dat.d0 := x.h2 _ (Nat.le_refl _)
      rw [e] at hn
      refine ⟨x.keep hjl (kp_t hn), ?_, ?_, rfl, by show l.length - (x.j + 1) < l.length - x.j; omega⟩
      · cbv
        repeat' first | (refine Stp.mk ?_; cbv) | (refine Gen.mk fun r hr => ?_; (try simp only [Dat.ok, Dat.dec, Leaf.ok, Leaf.val, Z0, Z1, Z2, Z3, Z4, Z5, Z6, Z7, val_sl, val_nil] at hr); cbv) | exact trivial | rfl | refine Both.mk ?_ ?_ | (refine Imp.mk fun h => ?_; (try dsimp only at h); (try simp only [nc, Int.toNat_natCast, ne_eq, zz] at h); (try simp only [nc] at h)) | refine Ob.mk ?_ ?_ | refine Chk.mk (by kernel_rfl) ?_ | refine Eq'.mk ?_ | (refine AllN.mk fun i hi => ?_; cbv) | (refine AllC.mk fun c hc hcm => ?_; (try dsimp only at hc); cbv) | (refine AllS.mk fun r hr => ?_; (try simp only [Dat.ok, Dat.dec, Leaf.ok, Leaf.val, Z0, Z1, Z2, Z3, Z4, Z5, Z6, Z7, val_sl] at hr); cbv)
      · cbv
        repeat' first | (refine Stp.mk ?_; cbv) | (refine Gen.mk fun r hr => ?_; (try simp only [Dat.ok, Dat.dec, Leaf.ok, Leaf.val, Z0, Z1, Z2, Z3, Z4, Z5, Z6, Z7, val_sl, val_nil] at hr); cbv) | exact trivial | rfl | refine Both.mk ?_ ?_ | (refine Imp.mk fun h => ?_; (try dsimp only at h); (try simp only [nc, Int.toNat_natCast, ne_eq, zz] at h); (try simp only [nc] at h)) | refine Ob.mk ?_ ?_ | refine Chk.mk (by kernel_rfl) ?_ | refine Eq'.mk ?_ | (refine AllN.mk fun i hi => ?_; cbv) | (refine AllC.mk fun c hc hcm => ?_; (try dsimp only at hc); cbv) | (refine AllS.mk fun r hr => ?_; (try simp only [Dat.ok, Dat.dec, Leaf.ok, Leaf.val, Z0, Z1, Z2, Z3, Z4, Z5, Z6, Z7, val_sl] at hr); cbv)
        all_goals first
          | (show x.c.length = (x.c.set x.w (l.getD x.j Dat.d0)).length; rw [List.length_set]; done)
          | (have e9 : (x.keep hjl (kp_t hn)).c.getD i Dat.d0 = _ := (set_bifV (by omega)).symm
             dsimp only
             rw [e9, ← e]; cases decide (i = x.w) <;> rfl)
          | fail)
   | (have hjl : x.j < l.length := by omega
      have hn : ¬ (x.c.getD x.j Dat.d0).owner = o := by assumption
      have e : x.c.getD x.j Dat.d0 = l.getD x.j Dat.d0 := x.h2 _ (Nat.le_refl _)
      rw [e] at hn
      refine ⟨x.drop hjl (kp_f hn), ?_, ?_, rfl, by show l.length - (x.j + 1) < l.length - x.j; omega⟩
      · cbv
        repeat' first | (refine Stp.mk ?_; cbv) | (refine Gen.mk fun r hr => ?_; (try simp only [Dat.ok, Dat.dec, Leaf.ok, Leaf.val, Z0, Z1, Z2, Z3, Z4, Z5, Z6, Z7, val_sl, val_nil] at hr); cbv) | exact trivial | rfl | refine Both.mk ?_ ?_ | (refine Imp.mk fun h => ?_; (try dsimp only at h); (try simp only [nc, Int.toNat_natCast, ne_eq, zz] at h); (try simp only [nc] at h)) | refine Ob.mk ?_ ?_ | refine Chk.mk (by kernel_rfl) ?_ | refine Eq'.mk ?_ | (refine AllN.mk fun i hi => ?_; cbv) | (refine AllC.mk fun c hc hcm => ?_; (try dsimp only at hc); cbv) | (refine AllS.mk fun r hr => ?_; (try simp only [Dat.ok, Dat.dec, Leaf.ok, Leaf.val, Z0, Z1, Z2, Z3, Z4, Z5, Z6, Z7, val_sl] at hr); cbv)
      · cbv
        repeat' first | (refine Stp.mk ?_; cbv) | (refine Gen.mk fun r hr => ?_; (try simp only [Dat.ok, Dat.dec, Leaf.ok, Leaf.val, Z0, Z1, Z2, Z3, Z4, Z5, Z6, Z7, val_sl, val_nil] at hr); cbv) | exact trivial | rfl | refine Both.mk ?_ ?_ | (refine Imp.mk fun h => ?_; (try dsimp only at h); (try simp only [nc, Int.toNat_natCast, ne_eq, zz] at h); (try simp only [nc] at h)) | refine Ob.mk ?_ ?_ | refine Chk.mk (by kernel_rfl) ?_ | refine Eq'.mk ?_ | (refine AllN.mk fun i hi => ?_; cbv) | (refine AllC.mk fun c hc hcm => ?_; (try dsimp only at hc); cbv) | (refine AllS.mk fun r hr => ?_; (try simp only [Dat.ok, Dat.dec, Leaf.ok, Leaf.val, Z0, Z1, Z2, Z3, Z4, Z5, Z6, Z7, val_sl] at hr); cbv))
   | (obtain ⟨q1, q2⟩ := dv_end x (by omega)
      subst hK
      cbv
      repeat' first | (refine Stp.mk ?_; cbv) | (refine Gen.mk fun r hr => ?_; (try simp only [Dat.ok, Dat.dec, Leaf.ok, Leaf.val, Z0, Z1, Z2, Z3, Z4, Z5, Z6, Z7, val_sl, val_nil] at hr); cbv) | exact trivial | rfl | refine Both.mk ?_ ?_ | (refine Imp.mk fun h => ?_; (try dsimp only at h); (try simp only [nc, Int.toNat_natCast, ne_eq, zz] at h); (try simp only [nc] at h)) | refine Ob.mk ?_ ?_ | refine Chk.mk (by kernel_rfl) ?_ | refine Eq'.mk ?_ | (refine AllN.mk fun i hi => ?_; cbv) | (refine AllC.mk fun c hc hcm => ?_; (try dsimp only at hc); cbv) | (refine AllS.mk fun r hr => ?_; (try simp only [Dat.ok, Dat.dec, Leaf.ok, Leaf.val, Z0, Z1, Z2, Z3, Z4, Z5, Z6, Z7, val_sl] at hr); cbv)
      all_goals first
        | exact q1
        | exact q1.symm
        | exact q2 _ (by assumption)
        | (dsimp only; rw [q2 _ (by assumption)]; done)
        | exact (q2 _ (by assumption)).symm
        | fail)
   | fail
inductive DelVC (A : List AV) (H : Hp) (K : Kont) : Prop where
 | mk (o : Int) (l : List Want) (hl : l.length ≤ 4611686018427387903) (h1 : H.length = 2) (h2 : leL 2 A [.own 0 fun _ => l.length, .fn 14 [.ptr 1 0]]) (h3 : leH H [vecO 28 fun _ => l, .blk [.i .i64 fun _ => o]])
   (h4 : K (.own 0 fun _ => (l.filter (kpB o)).length) [vecO 28 fun _ => l.filter (kpB o), .blk [.i .i64 fun _ => o]] [])
noncomputable def delV_K : Con := subCon DelVC
theorem delV_ok {A : List AV} {H : Hp} {K : Kont} (hv : delV_K A H K) : FnOk Tryz.prog 13 A H K :=
 subCon_ok (fun {A H K} hv => by
   obtain ⟨o, l, hl, h1, h2, h3, h4⟩ := hv
   exact preL (FnOk.le (delV_vc o l hl) rfl h4) h1 h2 h3) hv

end Go.Proofs.YtnjngpjkhddnfaaGreatDoor
