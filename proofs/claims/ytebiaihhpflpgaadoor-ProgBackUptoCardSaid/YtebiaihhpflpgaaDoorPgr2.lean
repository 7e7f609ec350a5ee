/- slices.DeleteFunc of empty words: walked. -/
import Derived.Test.YtebiaihhpflpgaaDoorPgr1
import Derived.Test.YtebiaihhpflpgaaDoorAbsG4
set_option linter.all false
namespace Go.Proofs.YtebiaihhpflpgaaDoor
open Go Go.Abs

def neB (s : ByteArray) : Bool := decide (s ≠ .empty)
noncomputable def cE0 : FuncId → Con := fun f => match f with
  | 22 => inlCon E noCon noDraws [0, 2] Tryd.f22
  | _ => fun _ _ _ => Bad 1001
theorem cE0_ok : ConOk Tryd.prog cE0 := fun f A H K h => by
  unfold cE0 at h
  split at h
  · exact ⟨⟨Tryd.f22, Tryd.func22, by kernel_rfl, by kernel_rfl⟩, inl_ok envOk zl noCon_ok noDraws_ok Tryd.func22 h⟩
  · cases h
noncomputable def cE1 : FuncId → Con := fun f => match f with
  | 38 => inlCon E cE0 noDraws [0, 1, 4, 5, 7, 8, 9, 16] Tryd.f38
  | 22 => inlCon E noCon noDraws [0, 2] Tryd.f22
  | _ => fun _ _ _ => Bad 1001
theorem cE1_ok : ConOk Tryd.prog cE1 := fun f A H K h => by
  unfold cE1 at h
  split at h
  · exact ⟨⟨Tryd.f38, Tryd.func38, by kernel_rfl, by kernel_rfl⟩, inl_ok envOk zl cE0_ok noDraws_ok Tryd.func38 h⟩
  · exact ⟨⟨Tryd.f22, Tryd.func22, by kernel_rfl, by kernel_rfl⟩, inl_ok envOk zl noCon_ok noDraws_ok Tryd.func22 h⟩
  · cases h
structure IfX (l : List ByteArray) where
  k : Nat
  hk : k ≤ l.length
  h1 : ∀ i, i < k → neB (l.getD i Dat.d0) = true
structure DfX (l : List ByteArray) where
  j : Nat
  hj : j ≤ l.length
  c : List ByteArray
  hc : c.length = l.length
  w : Nat
  hw : w < j
  h0 : w = ((l.take j).filter neB).length
  h1 : c.take w = (l.take j).filter neB
  h2 : ∀ i, j ≤ i → c.getD i Dat.d0 = l.getD i Dat.d0
theorem ne_f {s : ByteArray} (h : s = ⟨#[]⟩) : neB s = false := decide_eq_false fun q => q h
theorem ne_t {s : ByteArray} (h : ¬ s = ⟨#[]⟩) : neB s = true := decide_eq_true h
theorem take_sn {l : List ByteArray} {j : Nat} (h : j < l.length) : l.take (j + 1) = l.take j ++ [l.getD j Dat.d0] := by
  rw [List.take_add_one, List.getElem?_eq_getElem h, List.getD_eq_getElem?_getD, List.getElem?_eq_getElem h]; rfl
theorem filt_all {l : List ByteArray} {k : Nat} (hk : k ≤ l.length) (h : ∀ i, i < k → neB (l.getD i Dat.d0) = true) : (l.take k).filter neB = l.take k := by
  rw [List.filter_eq_self]
  intro x hx
  obtain ⟨i, hi, rfl⟩ := List.mem_iff_getElem.1 hx
  have hi2 : i < k := by rw [List.length_take] at hi; omega
  have := h i hi2
  rw [List.getD_eq_getElem?_getD, List.getElem?_eq_getElem (by omega)] at this
  simpa using this
theorem df_drop {l : List ByteArray} (x : DfX l) (h : x.j < l.length) (hb : neB (l.getD x.j Dat.d0) = false) : ((l.take (x.j + 1)).filter neB) = (l.take x.j).filter neB := by
  rw [take_sn h, List.filter_append, List.filter_cons_of_neg (by rw [hb]; exact Bool.false_ne_true), List.filter_nil, List.append_nil]
theorem df_keep {l : List ByteArray} (x : DfX l) (h : x.j < l.length) (hb : neB (l.getD x.j Dat.d0) = true) : ((l.take (x.j + 1)).filter neB) = (l.take x.j).filter neB ++ [l.getD x.j Dat.d0] := by
  rw [take_sn h, List.filter_append, List.filter_cons_of_pos hb, List.filter_nil]
def DfX.drop {l : List ByteArray} (x : DfX l) (h : x.j < l.length) (hb : neB (l.getD x.j Dat.d0) = false) : DfX l :=
  ⟨x.j + 1, h, x.c, x.hc, x.w, Nat.lt_succ_of_lt x.hw, by rw [df_drop x h hb]; exact x.h0, by rw [df_drop x h hb]; exact x.h1, fun i hi => x.h2 i (by omega)⟩
def DfX.keep {l : List ByteArray} (x : DfX l) (h : x.j < l.length) (hb : neB (l.getD x.j Dat.d0) = true) : DfX l :=
  ⟨x.j + 1, h, x.c.set x.w (l.getD x.j Dat.d0), by rw [List.length_set]; exact x.hc, x.w + 1, Nat.succ_lt_succ x.hw, by
    rw [df_keep x h hb, List.length_append, ← x.h0]; rfl, by
    have hl : x.w < (x.c.set x.w (l.getD x.j Dat.d0)).length := by rw [List.length_set, x.hc]; have := x.hw; omega
    rw [df_keep x h hb, take_sn hl, List.take_set_of_le (Nat.le_refl _), x.h1, List.getD_eq_getElem?_getD (l := x.c.set _ _), List.getElem?_set_self (by rw [List.length_set] at hl; exact hl)]; rfl, fun i hi => by
    rw [List.getD_eq_getElem?_getD, List.getElem?_set_ne (by have := x.hw; omega), ← List.getD_eq_getElem?_getD]
    exact x.h2 i (by omega)⟩
theorem df_end {l : List ByteArray} (x : DfX l) (h : l.length ≤ x.j) : x.w = (l.filter neB).length ∧ ∀ i, i < x.w → x.c.getD i Dat.d0 = (l.filter neB).getD i Dat.d0 := by
  have e : l.take x.j = l := List.take_of_length_le h
  have h0 := x.h0
  have h1 := x.h1
  rw [e] at h0 h1
  refine ⟨h0, fun i hi => ?_⟩
  rw [← h1, List.getD_eq_getElem?_getD, List.getD_eq_getElem?_getD, List.getElem?_take, if_pos hi]
theorem set_bif {c : List ByteArray} {w i : Nat} {v : ByteArray} (hw : w < c.length) : (bif decide (i = w) then v else c.getD i Dat.d0) = (c.set w v).getD i Dat.d0 := by
  by_cases h : i = w
  · subst h
    rw [decide_eq_true rfl, cond_true, List.getD_eq_getElem?_getD, List.getElem?_set_self hw]; rfl
  · rw [decide_eq_false h, cond_false, List.getD_eq_getElem?_getD, List.getD_eq_getElem?_getD, List.getElem?_set_ne (fun q => h q.symm)]
def dEd : FuncId → Option Dt := fun f => match f with
  | _ => none
theorem dEd_ok : DetOk Tryd.prog dEd := fun f d h => by
  unfold dEd at h
  split at h
  · cases h
set_option maxRecDepth 100000 in
set_option maxHeartbeats 4000000 in
theorem delW_vc (l : List ByteArray) (hp : l.length ≤ 4611686018427387903) : FnOk Tryd.prog 21 [.own 0 fun _ => l.length, .fn 22 []] [vecO 9 fun _ => l] (outLe 1 (.own 0 fun _ => (l.filter neB).length) [vecO 9 fun _ => l.filter neB] []) := by
  generalize hK : outLe 1 (.own 0 fun _ => (l.filter neB).length) [vecO 9 fun _ => l.filter neB] [] = K
  refine fn_ok envOk zl cE1_ok (draws_ok envOk zl dEd_ok mixed) (keep := [0, 1, 4, 5, 6, 7, 12, 19, 29]) Tryd.func21 rfl ?_
  cbv
  repeat' first | (show Stp _; exfalso; first | omega | (exact h ‹_›) | (exact absurd ‹_› h) | (exact Bool.false_ne_true (h.symm.trans (show _ = true by assumption)))) | (refine Stp.mk ?_; cbv) | (refine Gen.mk fun r hr => ?_; (try simp only [Dat.ok, Dat.dec, Leaf.ok, Leaf.val, Z0, Z1, val_sl, val_nil] at hr); cbv) | exact trivial | rfl | refine Both.mk ?_ ?_ | (refine Imp.mk fun h => ?_; (try dsimp only at h); (try simp only [nc, Int.toNat_natCast, ne_eq, zz] at h); (try simp only [nc] at h)) | refine Ob.mk ?_ ?_ | refine Chk.mk (by kernel_rfl) ?_ | refine Eq'.mk ?_ | (refine AllN.mk fun i hi => ?_; cbv) | (refine AllC.mk fun c hc hcm => ?_; (try dsimp only at hc); cbv) | (refine AllS.mk fun r hr => ?_; (try simp only [Dat.ok, Dat.dec, Leaf.ok, Leaf.val, Z0, Z1, val_sl] at hr); cbv)
  all_goals ((try dsimp only at *); (try simp only [nc, Int.toNat_natCast, ne_eq, zz] at *); (try simp only [nc] at *))
  refine LoopVC.frame [4, 5, 8, 9, 16] (IfX l) (fun x => [(8, .i .i64 fun _ => x.k)]) (fun _ => [(0, vecO 9 fun _ => l)]) [] (fun x => l.length - x.k) ⟨0, Nat.zero_le _, fun _ h => absurd h (Nat.not_lt_zero _)⟩ rfl (fun _ => rfl) ?_ ?_ fun ⟨k, hk, h1⟩ => ?_
  · cbv
    repeat' first | (refine Stp.mk ?_; cbv) | (refine Gen.mk fun r hr => ?_; (try simp only [Dat.ok, Dat.dec, Leaf.ok, Leaf.val, Z0, Z1, val_sl, val_nil] at hr); cbv) | exact trivial | rfl | refine Both.mk ?_ ?_ | (refine Imp.mk fun h => ?_; (try dsimp only at h); (try simp only [nc, Int.toNat_natCast, ne_eq, zz] at h); (try simp only [nc] at h)) | refine Ob.mk ?_ ?_ | refine Chk.mk (by kernel_rfl) ?_ | refine Eq'.mk ?_ | (refine AllN.mk fun i hi => ?_; cbv) | (refine AllC.mk fun c hc hcm => ?_; (try dsimp only at hc); cbv) | (refine AllS.mk fun r hr => ?_; (try simp only [Dat.ok, Dat.dec, Leaf.ok, Leaf.val, Z0, Z1, val_sl] at hr); cbv)
    all_goals fail
  · cbv
    repeat' first | (refine Stp.mk ?_; cbv) | (refine Gen.mk fun r hr => ?_; (try simp only [Dat.ok, Dat.dec, Leaf.ok, Leaf.val, Z0, Z1, val_sl, val_nil] at hr); cbv) | exact trivial | rfl | refine Both.mk ?_ ?_ | (refine Imp.mk fun h => ?_; (try dsimp only at h); (try simp only [nc, Int.toNat_natCast, ne_eq, zz] at h); (try simp only [nc] at h)) | refine Ob.mk ?_ ?_ | refine Chk.mk (by kernel_rfl) ?_ | refine Eq'.mk ?_ | (refine AllN.mk fun i hi => ?_; cbv) | (refine AllC.mk fun c hc hcm => ?_; (try dsimp only at hc); cbv) | (refine AllS.mk fun r hr => ?_; (try simp only [Dat.ok, Dat.dec, Leaf.ok, Leaf.val, Z0, Z1, val_sl] at hr); cbv)
    all_goals fail
  have hk9 : k ≤ l.length := hk
  have h19 := h1
  cbv
  repeat' first | (show Stp _; exfalso; first | omega | (exact h ‹_›) | (exact absurd ‹_› h) | (exact Bool.false_ne_true (h.symm.trans (show _ = true by assumption)))) | (refine Stp.mk ?_; cbv) | (refine Gen.mk fun r hr => ?_; (try simp only [Dat.ok, Dat.dec, Leaf.ok, Leaf.val, Z0, Z1, val_sl, val_nil] at hr); cbv) | exact trivial | rfl | refine Both.mk ?_ ?_ | (refine Imp.mk fun h => ?_; (try dsimp only at h); (try simp only [nc, Int.toNat_natCast, ne_eq, zz] at h); (try simp only [nc] at h)) | refine Ob.mk ?_ ?_ | refine Chk.mk (by kernel_rfl) ?_ | refine Eq'.mk ?_ | (refine AllN.mk fun i hi => ?_; cbv) | (refine AllC.mk fun c hc hcm => ?_; (try dsimp only at hc); cbv) | (refine AllS.mk fun r hr => ?_; (try simp only [Dat.ok, Dat.dec, Leaf.ok, Leaf.val, Z0, Z1, val_sl] at hr); cbv)
  all_goals ((try dsimp only at *); (try simp only [nc, Int.toNat_natCast, ne_eq, zz] at *); (try simp only [nc] at *))
  all_goals try rw [nc] at *
  all_goals try simp only [Dat.dec, Leaf.val, Z0, Z1, val_sl] at *
  all_goals try first
    | exact ⟨by omega, by omega⟩
    | (unfold InR; omega)
    | (exfalso; exact absurd trivial (by assumption))
    | (refine ⟨⟨k + 1, by omega, fun i hi => by
         rcases Nat.lt_or_ge i k with q | q
         · exact h19 i q
         · have e : i = k := by omega
           rw [e]; exact ne_t (by assumption)⟩, ?_, ?_, rfl, by (try dsimp only); omega⟩
       · cbv
         repeat' first | (refine Stp.mk ?_; cbv) | (refine Gen.mk fun r hr => ?_; (try simp only [Dat.ok, Dat.dec, Leaf.ok, Leaf.val, Z0, Z1, val_sl, val_nil] at hr); cbv) | exact trivial | rfl | refine Both.mk ?_ ?_ | (refine Imp.mk fun h => ?_; (try dsimp only at h); (try simp only [nc, Int.toNat_natCast, ne_eq, zz] at h); (try simp only [nc] at h)) | refine Ob.mk ?_ ?_ | refine Chk.mk (by kernel_rfl) ?_ | refine Eq'.mk ?_ | (refine AllN.mk fun i hi => ?_; cbv) | (refine AllC.mk fun c hc hcm => ?_; (try dsimp only at hc); cbv) | (refine AllS.mk fun r hr => ?_; (try simp only [Dat.ok, Dat.dec, Leaf.ok, Leaf.val, Z0, Z1, val_sl] at hr); cbv)
       · cbv
         repeat' first | (refine Stp.mk ?_; cbv) | (refine Gen.mk fun r hr => ?_; (try simp only [Dat.ok, Dat.dec, Leaf.ok, Leaf.val, Z0, Z1, val_sl, val_nil] at hr); cbv) | exact trivial | rfl | refine Both.mk ?_ ?_ | (refine Imp.mk fun h => ?_; (try dsimp only at h); (try simp only [nc, Int.toNat_natCast, ne_eq, zz] at h); (try simp only [nc] at h)) | refine Ob.mk ?_ ?_ | refine Chk.mk (by kernel_rfl) ?_ | refine Eq'.mk ?_ | (refine AllN.mk fun i hi => ?_; cbv) | (refine AllC.mk fun c hc hcm => ?_; (try dsimp only at hc); cbv) | (refine AllS.mk fun r hr => ?_; (try simp only [Dat.ok, Dat.dec, Leaf.ok, Leaf.val, Z0, Z1, val_sl] at hr); cbv))
    | (have e : l.filter neB = l := by
         have := filt_all (l := l) (Nat.le_refl _) fun i hi => h19 i (by omega)
         rwa [List.take_length] at this
       subst hK
       rw [e]
       cbv
       repeat' first | (refine Stp.mk ?_; cbv) | (refine Gen.mk fun r hr => ?_; (try simp only [Dat.ok, Dat.dec, Leaf.ok, Leaf.val, Z0, Z1, val_sl, val_nil] at hr); cbv) | exact trivial | rfl | refine Both.mk ?_ ?_ | (refine Imp.mk fun h => ?_; (try dsimp only at h); (try simp only [nc, Int.toNat_natCast, ne_eq, zz] at h); (try simp only [nc] at h)) | refine Ob.mk ?_ ?_ | refine Chk.mk (by kernel_rfl) ?_ | refine Eq'.mk ?_ | (refine AllN.mk fun i hi => ?_; cbv) | (refine AllC.mk fun c hc hcm => ?_; (try dsimp only at hc); cbv) | (refine AllS.mk fun r hr => ?_; (try simp only [Dat.ok, Dat.dec, Leaf.ok, Leaf.val, Z0, Z1, val_sl] at hr); cbv))
    | omega
  have kl : k < l.length := by omega
  have hb : neB (l.getD k Dat.d0) = false := ne_f (by assumption)
  have ht : (l.take (k + 1)).filter neB = l.take k := by
    rw [take_sn kl, List.filter_append, List.filter_cons_of_neg (by rw [hb]; exact Bool.false_ne_true), List.filter_nil, List.append_nil, filt_all hk h1]
  have htl : (l.take k).length = k := by rw [List.length_take]; omega
  refine LoopVC.frame [5, 6, 7, 19, 29] (DfX l) (fun x => [(5, .i .i64 fun _ => x.w), (6, .i .i64 fun _ => x.j)]) (fun x => [(0, vecO 9 fun _ => x.c)]) [] (fun x => l.length - x.j) ⟨k + 1, kl, l, rfl, k, Nat.lt_succ_self _, by rw [ht, htl], by rw [ht], fun _ _ => rfl⟩ rfl (fun _ => rfl) ?_ ?_ fun x => ?_
  · cbv
    repeat' first | (refine Stp.mk ?_; cbv) | (refine Gen.mk fun r hr => ?_; (try simp only [Dat.ok, Dat.dec, Leaf.ok, Leaf.val, Z0, Z1, val_sl, val_nil] at hr); cbv) | exact trivial | rfl | refine Both.mk ?_ ?_ | (refine Imp.mk fun h => ?_; (try dsimp only at h); (try simp only [nc, Int.toNat_natCast, ne_eq, zz] at h); (try simp only [nc] at h)) | refine Ob.mk ?_ ?_ | refine Chk.mk (by kernel_rfl) ?_ | refine Eq'.mk ?_ | (refine AllN.mk fun i hi => ?_; cbv) | (refine AllC.mk fun c hc hcm => ?_; (try dsimp only at hc); cbv) | (refine AllS.mk fun r hr => ?_; (try simp only [Dat.ok, Dat.dec, Leaf.ok, Leaf.val, Z0, Z1, val_sl] at hr); cbv)
    all_goals fail
  · cbv
    repeat' first | (refine Stp.mk ?_; cbv) | (refine Gen.mk fun r hr => ?_; (try simp only [Dat.ok, Dat.dec, Leaf.ok, Leaf.val, Z0, Z1, val_sl, val_nil] at hr); cbv) | exact trivial | rfl | refine Both.mk ?_ ?_ | (refine Imp.mk fun h => ?_; (try dsimp only at h); (try simp only [nc, Int.toNat_natCast, ne_eq, zz] at h); (try simp only [nc] at h)) | refine Ob.mk ?_ ?_ | refine Chk.mk (by kernel_rfl) ?_ | refine Eq'.mk ?_ | (refine AllN.mk fun i hi => ?_; cbv) | (refine AllC.mk fun c hc hcm => ?_; (try dsimp only at hc); cbv) | (refine AllS.mk fun r hr => ?_; (try simp only [Dat.ok, Dat.dec, Leaf.ok, Leaf.val, Z0, Z1, val_sl] at hr); cbv)
    all_goals fail
  have hj := x.hj
  have hc := x.hc
  have hw := x.hw
  cbv
  repeat' first | (show Stp _; exfalso; first | omega | (exact h ‹_›) | (exact absurd ‹_› h) | (exact Bool.false_ne_true (h.symm.trans (show _ = true by assumption)))) | (refine Stp.mk ?_; cbv) | (refine Gen.mk fun r hr => ?_; (try simp only [Dat.ok, Dat.dec, Leaf.ok, Leaf.val, Z0, Z1, val_sl, val_nil] at hr); cbv) | exact trivial | rfl | refine Both.mk ?_ ?_ | (refine Imp.mk fun h => ?_; (try dsimp only at h); (try simp only [nc, Int.toNat_natCast, ne_eq, zz] at h); (try simp only [nc] at h)) | refine Ob.mk ?_ ?_ | refine Chk.mk (by kernel_rfl) ?_ | refine Eq'.mk ?_ | (refine AllN.mk fun i hi => ?_; cbv) | (refine AllC.mk fun c hc hcm => ?_; (try dsimp only at hc); cbv) | (refine AllS.mk fun r hr => ?_; (try simp only [Dat.ok, Dat.dec, Leaf.ok, Leaf.val, Z0, Z1, val_sl] at hr); cbv)
  all_goals ((try dsimp only at *); (try simp only [nc, Int.toNat_natCast, ne_eq, zz] at *); (try simp only [nc] at *))
  all_goals try rw [nc] at *
  all_goals try simp only [Dat.dec, Leaf.val, Z0, Z1, val_sl] at *
  all_goals first
    | omega
    | exact ⟨by omega, by omega⟩
    | exact ⟨by omega, by omega, by omega⟩
    | exact ⟨trivial, by omega, by omega⟩
    | (unfold InR; omega)
    | (have hjl : x.j < l.length := by omega
       have hn : ¬ x.c.getD x.j Dat.d0 = (⟨#[]⟩ : ByteArray) := by assumption
       have e : x.c.getD x.j Dat.d0 = l.getD x.j Dat.d0 := x.h2 _ (Nat.le_refl _)
       rw [e] at hn
       refine ⟨x.keep hjl (ne_t hn), ?_, ?_, rfl, by show l.length - (x.j + 1) < l.length - x.j; omega⟩
       · cbv
         repeat' first | (refine Stp.mk ?_; cbv) | (refine Gen.mk fun r hr => ?_; (try simp only [Dat.ok, Dat.dec, Leaf.ok, Leaf.val, Z0, Z1, val_sl, val_nil] at hr); cbv) | exact trivial | rfl | refine Both.mk ?_ ?_ | (refine Imp.mk fun h => ?_; (try dsimp only at h); (try simp only [nc, Int.toNat_natCast, ne_eq, zz] at h); (try simp only [nc] at h)) | refine Ob.mk ?_ ?_ | refine Chk.mk (by kernel_rfl) ?_ | refine Eq'.mk ?_ | (refine AllN.mk fun i hi => ?_; cbv) | (refine AllC.mk fun c hc hcm => ?_; (try dsimp only at hc); cbv) | (refine AllS.mk fun r hr => ?_; (try simp only [Dat.ok, Dat.dec, Leaf.ok, Leaf.val, Z0, Z1, val_sl] at hr); cbv)
       · cbv
         repeat' first | (refine Stp.mk ?_; cbv) | (refine Gen.mk fun r hr => ?_; (try simp only [Dat.ok, Dat.dec, Leaf.ok, Leaf.val, Z0, Z1, val_sl, val_nil] at hr); cbv) | exact trivial | rfl | refine Both.mk ?_ ?_ | (refine Imp.mk fun h => ?_; (try dsimp only at h); (try simp only [nc, Int.toNat_natCast, ne_eq, zz] at h); (try simp only [nc] at h)) | refine Ob.mk ?_ ?_ | refine Chk.mk (by kernel_rfl) ?_ | refine Eq'.mk ?_ | (refine AllN.mk fun i hi => ?_; cbv) | (refine AllC.mk fun c hc hcm => ?_; (try dsimp only at hc); cbv) | (refine AllS.mk fun r hr => ?_; (try simp only [Dat.ok, Dat.dec, Leaf.ok, Leaf.val, Z0, Z1, val_sl] at hr); cbv)
         all_goals first
           | (show x.c.length = (x.c.set x.w (l.getD x.j Dat.d0)).length; rw [List.length_set]; done)
           | (show _ = (x.c.set x.w (l.getD x.j Dat.d0)).getD _ Dat.d0
              rw [← e]; exact set_bif (by omega))
           | fail)
    | (have hjl : x.j < l.length := by omega
       have hn : x.c.getD x.j Dat.d0 = (⟨#[]⟩ : ByteArray) := by assumption
       have e : x.c.getD x.j Dat.d0 = l.getD x.j Dat.d0 := x.h2 _ (Nat.le_refl _)
       rw [e] at hn
       refine ⟨x.drop hjl (ne_f hn), ?_, ?_, rfl, by show l.length - (x.j + 1) < l.length - x.j; omega⟩
       · cbv
         repeat' first | (refine Stp.mk ?_; cbv) | (refine Gen.mk fun r hr => ?_; (try simp only [Dat.ok, Dat.dec, Leaf.ok, Leaf.val, Z0, Z1, val_sl, val_nil] at hr); cbv) | exact trivial | rfl | refine Both.mk ?_ ?_ | (refine Imp.mk fun h => ?_; (try dsimp only at h); (try simp only [nc, Int.toNat_natCast, ne_eq, zz] at h); (try simp only [nc] at h)) | refine Ob.mk ?_ ?_ | refine Chk.mk (by kernel_rfl) ?_ | refine Eq'.mk ?_ | (refine AllN.mk fun i hi => ?_; cbv) | (refine AllC.mk fun c hc hcm => ?_; (try dsimp only at hc); cbv) | (refine AllS.mk fun r hr => ?_; (try simp only [Dat.ok, Dat.dec, Leaf.ok, Leaf.val, Z0, Z1, val_sl] at hr); cbv)
       · cbv
         repeat' first | (refine Stp.mk ?_; cbv) | (refine Gen.mk fun r hr => ?_; (try simp only [Dat.ok, Dat.dec, Leaf.ok, Leaf.val, Z0, Z1, val_sl, val_nil] at hr); cbv) | exact trivial | rfl | refine Both.mk ?_ ?_ | (refine Imp.mk fun h => ?_; (try dsimp only at h); (try simp only [nc, Int.toNat_natCast, ne_eq, zz] at h); (try simp only [nc] at h)) | refine Ob.mk ?_ ?_ | refine Chk.mk (by kernel_rfl) ?_ | refine Eq'.mk ?_ | (refine AllN.mk fun i hi => ?_; cbv) | (refine AllC.mk fun c hc hcm => ?_; (try dsimp only at hc); cbv) | (refine AllS.mk fun r hr => ?_; (try simp only [Dat.ok, Dat.dec, Leaf.ok, Leaf.val, Z0, Z1, val_sl] at hr); cbv))
    | (obtain ⟨q1, q2⟩ := df_end x (by omega)
       subst hK
       cbv
       repeat' first | (refine Stp.mk ?_; cbv) | (refine Gen.mk fun r hr => ?_; (try simp only [Dat.ok, Dat.dec, Leaf.ok, Leaf.val, Z0, Z1, val_sl, val_nil] at hr); cbv) | exact trivial | rfl | refine Both.mk ?_ ?_ | (refine Imp.mk fun h => ?_; (try dsimp only at h); (try simp only [nc, Int.toNat_natCast, ne_eq, zz] at h); (try simp only [nc] at h)) | refine Ob.mk ?_ ?_ | refine Chk.mk (by kernel_rfl) ?_ | refine Eq'.mk ?_ | (refine AllN.mk fun i hi => ?_; cbv) | (refine AllC.mk fun c hc hcm => ?_; (try dsimp only at hc); cbv) | (refine AllS.mk fun r hr => ?_; (try simp only [Dat.ok, Dat.dec, Leaf.ok, Leaf.val, Z0, Z1, val_sl] at hr); cbv)
       all_goals first
         | exact q1
         | exact q1.symm
         | exact q2 _ (by assumption)
         | exact (q2 _ (by assumption)).symm
         | fail)
    | fail
def delW_S : OwnS ByteArray := { pre := fun r l => match r with | [.fn g []] => g = 22 ∧ l.length ≤ 4611686018427387903 | _ => False, fin := fun _ l => l.filter neB, res := some (fun _ l => (l.filter neB).length), kl := false }
noncomputable def delW_K : Con := ownCon ByteArray 9 delW_S
theorem delW_ok {A : List AV} {H : Hp} {K : Kont} (h : delW_K A H K) : FnOk Tryd.prog 21 A H K := ownCon_ok (fun _ _ h => by cases h) (fun rest d _ hp => by
  have hp : (match (generalizing := false) rest with | [.fn g []] => g = 22 ∧ d.length ≤ 4611686018427387903 | _ => False) := hp
  split at hp
  · obtain ⟨q1, q2⟩ := hp
    subst q1
    exact delW_vc d q2
  · cases hp) h

end Go.Proofs.YtebiaihhpflpgaaDoor
