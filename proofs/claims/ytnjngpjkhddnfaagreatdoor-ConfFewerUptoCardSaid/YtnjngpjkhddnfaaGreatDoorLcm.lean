/- What all divide, walked. -/
import Derived.Test.YtnjngpjkhddnfaaGreatDoorTy
set_option linter.all false
namespace Go.Proofs.YtnjngpjkhddnfaaGreatDoor
open Go Go.Abs

def gcdV (a b : Int) : Int := Int.gcd a b
theorem gcd_step' {x y : Int} (hx : 0 ≤ x) (hy : 0 < y) : gcdV x y = gcdV y (x % y) := by
 obtain ⟨X, rfl⟩ := Int.eq_ofNat_of_zero_le hx
 obtain ⟨Y, rfl⟩ := Int.eq_ofNat_of_zero_le (Int.le_of_lt hy)
 unfold gcdV
 rw [← Int.natCast_emod]
 show ((Nat.gcd X Y : Nat) : Int) = ((Nat.gcd Y (X % Y) : Nat) : Int)
 rw [Nat.gcd_comm, Nat.gcd_rec, Nat.gcd_comm]
structure GcX (a b : Int) where
 x : Int
 y : Int
 hx : 0 ≤ x
 hy : 0 ≤ y
 he : gcdV a b = gcdV x y
def gcdN_R (r : Th (Int)) : AV := .i .i64 fun _ => (r ())
def gcdN_P (a : Int) (b : Int) : Prop := 0 ≤ a ∧ 0 ≤ b
def gcdN_D : Det := fun A => match A with
 | [.i .i64 a, .i .i64 b] => some (fun _ => gcdN_P (a ()) (b ()), gcdN_R fun _ => gcdV (a ()) (b ()))
 | _ => none
set_option maxRecDepth 100000 in
set_option maxHeartbeats 4000000 in
theorem gcdN_vc (a : Int) (b : Int) (hp : gcdN_P a b) : FnOk Tryz.prog 69 [.i .i64 fun _ => a, .i .i64 fun _ => b] [] (outA (gcdN_R fun _ => gcdV a b) []) := by
 refine fn_ok envOk zl noCon_ok (draws_ok envOk zl noDet_ok mixed) (keep := [0, 1, 4, 6]) Tryz.func69 rfl ?_
 obtain ⟨h1, h2⟩ : 0 ≤ a ∧ 0 ≤ b := hp
 cbv
 refine LoopVC.frame [0, 1, 6] (GcX a b) (fun x => [(0, .i .i64 fun _ => x.x), (1, .i .i64 fun _ => x.y)]) (fun _ => []) [] (fun x => x.y.toNat) ⟨a, b, h1, h2, rfl⟩ rfl (fun _ => rfl) ?_ ?_ fun ⟨x, y, hx, hy, he⟩ => ?_
 iterate 2
   · cbv
     repeat' first | (refine Stp.mk ?_; cbv) | (refine Gen.mk fun r hr => ?_; (try simp only [Dat.ok, Dat.dec, Leaf.ok, Leaf.val, Z0, Z1, Z2, Z3, Z4, Z5, Z6, Z7, val_sl, val_nil] at hr); cbv) | exact trivial | rfl | refine Both.mk ?_ ?_ | (refine Imp.mk fun h => ?_; (try dsimp only at h); (try simp only [nc, Int.toNat_natCast, ne_eq, zz] at h); (try simp only [nc] at h)) | refine Ob.mk ?_ ?_ | refine Chk.mk (by kernel_rfl) ?_ | refine Eq'.mk ?_ | (refine AllN.mk fun i hi => ?_; cbv) | (refine AllC.mk fun c hc hcm => ?_; (try dsimp only at hc); cbv) | (refine AllS.mk fun r hr => ?_; (try simp only [Dat.ok, Dat.dec, Leaf.ok, Leaf.val, Z0, Z1, Z2, Z3, Z4, Z5, Z6, Z7, val_sl] at hr); cbv)
 · cbv
   repeat' first | (show Stp _; exfalso; first | omega | (exact h ‹_›) | (exact absurd ‹_› h) | (exact Bool.false_ne_true (h.symm.trans (show _ = true by assumption)))) | (refine Stp.mk ?_; cbv) | (refine Gen.mk fun r hr => ?_; (try simp only [Dat.ok, Dat.dec, Leaf.ok, Leaf.val, Z0, Z1, Z2, Z3, Z4, Z5, Z6, Z7, val_sl, val_nil] at hr); cbv) | exact trivial | rfl | refine Both.mk ?_ ?_ | (refine Imp.mk fun h => ?_; (try dsimp only at h); (try simp only [nc, Int.toNat_natCast, ne_eq, zz] at h); (try simp only [nc] at h)) | refine Ob.mk ?_ ?_ | refine Chk.mk (by kernel_rfl) ?_ | refine Eq'.mk ?_ | (refine AllN.mk fun i hi => ?_; cbv) | (refine AllC.mk fun c hc hcm => ?_; (try dsimp only at hc); cbv) | (refine AllS.mk fun r hr => ?_; (try simp only [Dat.ok, Dat.dec, Leaf.ok, Leaf.val, Z0, Z1, Z2, Z3, Z4, Z5, Z6, Z7, val_sl] at hr); cbv)
   all_goals ((try dsimp only at *); (try simp only [nc, Int.toNat_natCast, ne_eq, zz] at *); (try simp only [nc] at *))
   all_goals first
     | omega
     | (have hm := Int.emod_lt_of_pos x (show 0 < y by omega)
        have hn := Int.emod_nonneg x (show y ≠ 0 by omega)
        refine ⟨⟨y, x % y, hy, hn, he.trans (gcd_step' hx (by omega))⟩, ?_, ?_, rfl, by (try dsimp only); omega⟩
        · cbv
          repeat' first | (refine Stp.mk ?_; cbv) | (refine Gen.mk fun r hr => ?_; (try simp only [Dat.ok, Dat.dec, Leaf.ok, Leaf.val, Z0, Z1, Z2, Z3, Z4, Z5, Z6, Z7, val_sl, val_nil] at hr); cbv) | exact trivial | rfl | refine Both.mk ?_ ?_ | (refine Imp.mk fun h => ?_; (try dsimp only at h); (try simp only [nc, Int.toNat_natCast, ne_eq, zz] at h); (try simp only [nc] at h)) | refine Ob.mk ?_ ?_ | refine Chk.mk (by kernel_rfl) ?_ | refine Eq'.mk ?_ | (refine AllN.mk fun i hi => ?_; cbv) | (refine AllC.mk fun c hc hcm => ?_; (try dsimp only at hc); cbv) | (refine AllS.mk fun r hr => ?_; (try simp only [Dat.ok, Dat.dec, Leaf.ok, Leaf.val, Z0, Z1, Z2, Z3, Z4, Z5, Z6, Z7, val_sl] at hr); cbv)
          all_goals first
            | rfl
            | exact Int.tmod_eq_emod_of_nonneg hx
            | fail
        · cbv
          repeat' first | (refine Stp.mk ?_; cbv) | (refine Gen.mk fun r hr => ?_; (try simp only [Dat.ok, Dat.dec, Leaf.ok, Leaf.val, Z0, Z1, Z2, Z3, Z4, Z5, Z6, Z7, val_sl, val_nil] at hr); cbv) | exact trivial | rfl | refine Both.mk ?_ ?_ | (refine Imp.mk fun h => ?_; (try dsimp only at h); (try simp only [nc, Int.toNat_natCast, ne_eq, zz] at h); (try simp only [nc] at h)) | refine Ob.mk ?_ ?_ | refine Chk.mk (by kernel_rfl) ?_ | refine Eq'.mk ?_ | (refine AllN.mk fun i hi => ?_; cbv) | (refine AllC.mk fun c hc hcm => ?_; (try dsimp only at hc); cbv) | (refine AllS.mk fun r hr => ?_; (try simp only [Dat.ok, Dat.dec, Leaf.ok, Leaf.val, Z0, Z1, Z2, Z3, Z4, Z5, Z6, Z7, val_sl] at hr); cbv))
     | (have : y = 0 := by omega
        subst this
        show x = gcdV a b
        rw [he]; unfold gcdV; rw [Int.gcd_zero_right]; omega)
     | fail
theorem gcdN_ok : PcOk Tryz.prog 69 (detPC gcdN_D) := det_okA fun A p r h hp0 => by
 unfold gcdN_D at h
 split at h
 · rename_i a b
   cases h
   have hp := hp0
   exact ⟨rfl, FnOk.pre (A' := [.i .i64 fun _ => a (), .i .i64 fun _ => b ()]) (gcdN_vc (a ()) (b ()) hp) (.mk (.mk (.mk rfl) (.mk rfl)) (.mk (.mk (.mk rfl) (.mk rfl)) (trivial)))⟩
 · cases h
theorem gcd_facts {a b : Int} (ha : 1 ≤ a) (hb : 1 ≤ b) : 1 ≤ gcdV a b ∧ gcdV a b ≤ a ∧ gcdV a b ≤ b ∧ gcdV a b ∣ a ∧ gcdV a b ∣ b := by
 have h1 : gcdV a b ∣ a := Int.gcd_dvd_left ..
 have h2 : gcdV a b ∣ b := Int.gcd_dvd_right ..
 have h3 : 0 < Int.gcd a b := Int.gcd_pos_of_ne_zero_left b (by omega)
 refine ⟨by unfold gcdV; omega, Int.le_of_dvd (by omega) h1, Int.le_of_dvd (by omega) h2, h1, h2⟩
def lcmR : List Int → Int → Int × Int
 | [], all => (all, 0)
 | x :: l, all => if 1099511627776 / all < x / gcdV all x then (0, 6) else lcmR l (all * (x / gcdV all x))
def okN (x : Int) : Bool := decide (1 ≤ x ∧ x ≤ 1099511627776)
def lcmV (l : List Int) : Int × Int := if 100 < l.length then (0, 2) else if l.all okN then lcmR l 1 else (0, 1)
structure LcX (l : List Int) where
 k : Nat
 hk : k ≤ l.length
 ha : (l.take k).all okN = true
structure LdX (l : List Int) where
 k : Nat
 c : Int
 hk : k ≤ l.length
 c1 : 1 ≤ c
 c2 : c ≤ 1099511627776
 he : lcmR l 1 = lcmR (l.drop k) c
theorem lcm_drop {l : List Int} {k : Nat} {c : Int} (hk : k < l.length) : lcmR (l.drop k) c = if 1099511627776 / c < l.getD k Dat.d0 / gcdV c (l.getD k Dat.d0) then (0, 6) else lcmR (l.drop (k + 1)) (c * (l.getD k Dat.d0 / gcdV c (l.getD k Dat.d0))) := by
 rw [drop_cons Dat.d0 hk, lcmR]
theorem all_take {l : List Int} {k : Nat} (hk : k < l.length) (h : (l.take k).all okN = true) (h2 : okN (l.getD k Dat.d0) = true) : (l.take (k + 1)).all okN = true := by
 rw [List.take_add_one, List.getElem?_eq_getElem hk, List.all_append, h]
 rw [List.getD_eq_getElem?_getD, List.getElem?_eq_getElem hk] at h2
 simpa using h2
theorem all_bad {l : List Int} {k : Nat} (hk : k < l.length) (h2 : ¬ (1 ≤ l.getD k Dat.d0 ∧ l.getD k Dat.d0 ≤ 1099511627776)) : ¬ l.all okN = true := by
 intro h
 rw [List.getD_eq_getElem?_getD, List.getElem?_eq_getElem hk] at h2
 exact h2 (by simpa [okN] using List.all_eq_true.1 h l[k] (List.getElem_mem _))
theorem all_get {l : List Int} {k : Nat} (hk : k < l.length) (h : l.all okN = true) : 1 ≤ l.getD k Dat.d0 ∧ l.getD k Dat.d0 ≤ 1099511627776 := by
 rw [List.getD_eq_getElem?_getD, List.getElem?_eq_getElem hk]
 simpa [okN] using List.all_eq_true.1 h l[k] (List.getElem_mem _)
def lcmN_R (r : Th (Int × Int)) : AV := .tup [.i .i64 fun _ => (r ()).1, .i .i64 fun _ => (r ()).2]
def lcmN_P (l : (List Int)) : Prop := l.length ≤ 1099511627776
def lcmN_D : Det := fun A => match A with
 | [l] => some (fun _ => Leaf.ok (List Int) l ∧ lcmN_P (Leaf.val l), lcmN_R fun _ => lcmV (Leaf.val l))
 | _ => none
noncomputable def cLN : FuncId → Con := fun f => match f with
 | 69 => pureCon (detPC gcdN_D)
 | 68 => inlCon E noCon noDraws [0, 1, 2, 6] Tryz.f68
 | _ => fun _ _ _ => Bad 1001
theorem cLN_ok : ConOk Tryz.prog cLN := fun f A H K h => by
 unfold cLN at h
 split at h
 · exact ⟨⟨Tryz.f69, Tryz.func69, by kernel_rfl, by kernel_rfl⟩, pureCon_ok gcdN_ok h⟩
 · exact ⟨⟨Tryz.f68, Tryz.func68, by kernel_rfl, by kernel_rfl⟩, inl_ok envOk zl noCon_ok noDraws_ok Tryz.func68 h⟩
 · cases h
def dLN : FuncId → Option Dt := fun f => match f with
 | 69 => some (.c gcdN_D)
 | _ => none
theorem dLN_ok : DetOk Tryz.prog dLN := fun f d h => by
 unfold dLN at h
 split at h
 · cases h; exact ⟨⟨Tryz.f69, Tryz.func69, by kernel_rfl, by kernel_rfl⟩, gcdN_ok⟩
 · cases h
set_option maxRecDepth 100000 in
set_option maxHeartbeats 4000000 in
theorem lcmN_vc (l : (List Int)) (hp : lcmN_P l) : FnOk Tryz.prog 47 [Leaf.av fun _ => l] [] (outA (lcmN_R fun _ => lcmV l) []) := by
 refine fn_ok envOk zl cLN_ok (draws_ok envOk zl dLN_ok mixed) (keep := [0, 2, 3, 5, 6, 8, 11, 12, 13, 14, 15, 20, 22, 23, 24, 25, 36]) Tryz.func47 rfl ?_
 have hp' : l.length ≤ 1099511627776 := hp
 cbv
 repeat' first | (show Stp _; exfalso; first | omega | (exact h ‹_›) | (exact absurd ‹_› h) | (exact Bool.false_ne_true (h.symm.trans (show _ = true by assumption)))) | (refine Stp.mk ?_; cbv) | (refine Gen.mk fun r hr => ?_; (try simp only [Dat.ok, Dat.dec, Leaf.ok, Leaf.val, Z0, Z1, Z2, Z3, Z4, Z5, Z6, Z7, val_sl, val_nil] at hr); cbv) | exact trivial | rfl | refine Both.mk ?_ ?_ | (refine Imp.mk fun h => ?_; (try dsimp only at h); (try simp only [nc, Int.toNat_natCast, ne_eq, zz] at h); (try simp only [nc] at h)) | refine Ob.mk ?_ ?_ | refine Chk.mk (by kernel_rfl) ?_ | refine Eq'.mk ?_ | (refine AllN.mk fun i hi => ?_; cbv) | (refine AllC.mk fun c hc hcm => ?_; (try dsimp only at hc); cbv) | (refine AllS.mk fun r hr => ?_; (try simp only [Dat.ok, Dat.dec, Leaf.ok, Leaf.val, Z0, Z1, Z2, Z3, Z4, Z5, Z6, Z7, val_sl] at hr); cbv)
 all_goals ((try dsimp only at *); (try simp only [nc, Int.toNat_natCast, ne_eq, zz] at *); (try simp only [nc] at *))
 · rw [lcmV, if_pos (by omega)]
 · rw [lcmV, if_pos (by omega)]
 refine LoopVC.frame [2, 3, 5, 14, 15, 20] (LcX l) (fun x => [(14, .i .i64 fun _ => x.k)]) (fun _ => []) [] (fun x => l.length - x.k) ⟨0, Nat.zero_le _, by simp⟩ rfl (fun _ => rfl) ?_ ?_ fun ⟨k, hk, ha⟩ => ?_
 iterate 2
   · cbv
     repeat' first | (refine Stp.mk ?_; cbv) | (refine Gen.mk fun r hr => ?_; (try simp only [Dat.ok, Dat.dec, Leaf.ok, Leaf.val, Z0, Z1, Z2, Z3, Z4, Z5, Z6, Z7, val_sl, val_nil] at hr); cbv) | exact trivial | rfl | refine Both.mk ?_ ?_ | (refine Imp.mk fun h => ?_; (try dsimp only at h); (try simp only [nc, Int.toNat_natCast, ne_eq, zz] at h); (try simp only [nc] at h)) | refine Ob.mk ?_ ?_ | refine Chk.mk (by kernel_rfl) ?_ | refine Eq'.mk ?_ | (refine AllN.mk fun i hi => ?_; cbv) | (refine AllC.mk fun c hc hcm => ?_; (try dsimp only at hc); cbv) | (refine AllS.mk fun r hr => ?_; (try simp only [Dat.ok, Dat.dec, Leaf.ok, Leaf.val, Z0, Z1, Z2, Z3, Z4, Z5, Z6, Z7, val_sl] at hr); cbv)
 cbv
 repeat' first | (show Stp _; exfalso; first | omega | (exact h ‹_›) | (exact absurd ‹_› h) | (exact Bool.false_ne_true (h.symm.trans (show _ = true by assumption)))) | (refine Stp.mk ?_; cbv) | (refine Gen.mk fun r hr => ?_; (try simp only [Dat.ok, Dat.dec, Leaf.ok, Leaf.val, Z0, Z1, Z2, Z3, Z4, Z5, Z6, Z7, val_sl, val_nil] at hr); cbv) | exact trivial | rfl | refine Both.mk ?_ ?_ | (refine Imp.mk fun h => ?_; (try dsimp only at h); (try simp only [nc, Int.toNat_natCast, ne_eq, zz] at h); (try simp only [nc] at h)) | refine Ob.mk ?_ ?_ | refine Chk.mk (by kernel_rfl) ?_ | refine Eq'.mk ?_ | (refine AllN.mk fun i hi => ?_; cbv) | (refine AllC.mk fun c hc hcm => ?_; (try dsimp only at hc); cbv) | (refine AllS.mk fun r hr => ?_; (try simp only [Dat.ok, Dat.dec, Leaf.ok, Leaf.val, Z0, Z1, Z2, Z3, Z4, Z5, Z6, Z7, val_sl] at hr); cbv)
 all_goals ((try dsimp only at *); (try simp only [nc, Int.toNat_natCast, ne_eq, zz] at *); (try simp only [nc] at *))
 all_goals first
   | omega
   | (unfold InR; omega)
   | (rw [lcmV, if_neg (by omega), if_neg (all_bad (k := k) (by omega) (by omega))]; done)
   | (refine ⟨⟨k + 1, by omega, all_take (by omega) ha (decide_eq_true ⟨by assumption, by assumption⟩)⟩, ?_, ?_, rfl, by (try dsimp only); omega⟩
      · cbv
        repeat' first | (refine Stp.mk ?_; cbv) | (refine Gen.mk fun r hr => ?_; (try simp only [Dat.ok, Dat.dec, Leaf.ok, Leaf.val, Z0, Z1, Z2, Z3, Z4, Z5, Z6, Z7, val_sl, val_nil] at hr); cbv) | exact trivial | rfl | refine Both.mk ?_ ?_ | (refine Imp.mk fun h => ?_; (try dsimp only at h); (try simp only [nc, Int.toNat_natCast, ne_eq, zz] at h); (try simp only [nc] at h)) | refine Ob.mk ?_ ?_ | refine Chk.mk (by kernel_rfl) ?_ | refine Eq'.mk ?_ | (refine AllN.mk fun i hi => ?_; cbv) | (refine AllC.mk fun c hc hcm => ?_; (try dsimp only at hc); cbv) | (refine AllS.mk fun r hr => ?_; (try simp only [Dat.ok, Dat.dec, Leaf.ok, Leaf.val, Z0, Z1, Z2, Z3, Z4, Z5, Z6, Z7, val_sl] at hr); cbv)
      · cbv
        repeat' first | (refine Stp.mk ?_; cbv) | (refine Gen.mk fun r hr => ?_; (try simp only [Dat.ok, Dat.dec, Leaf.ok, Leaf.val, Z0, Z1, Z2, Z3, Z4, Z5, Z6, Z7, val_sl, val_nil] at hr); cbv) | exact trivial | rfl | refine Both.mk ?_ ?_ | (refine Imp.mk fun h => ?_; (try dsimp only at h); (try simp only [nc, Int.toNat_natCast, ne_eq, zz] at h); (try simp only [nc] at h)) | refine Ob.mk ?_ ?_ | refine Chk.mk (by kernel_rfl) ?_ | refine Eq'.mk ?_ | (refine AllN.mk fun i hi => ?_; cbv) | (refine AllC.mk fun c hc hcm => ?_; (try dsimp only at hc); cbv) | (refine AllS.mk fun r hr => ?_; (try simp only [Dat.ok, Dat.dec, Leaf.ok, Leaf.val, Z0, Z1, Z2, Z3, Z4, Z5, Z6, Z7, val_sl] at hr); cbv))
   | skip
 have hal : l.all okN = true := by rwa [List.take_of_length_le (by omega)] at ha
 have hl : lcmV l = lcmR l 1 := by rw [lcmV, if_neg (by omega), if_pos hal]
 rw [hl]
 refine LoopVC.frame [2, 3, 6, 8, 24, 25, 36] (LdX l) (fun x => [(24, .i .i64 fun _ => x.k), (6, .i .i64 fun _ => x.c)]) (fun _ => []) [] (fun x => l.length - x.k) ⟨0, 1, Nat.zero_le _, by decide, by decide, rfl⟩ rfl (fun _ => rfl) ?_ ?_ fun ⟨j, c, hj, c1, c2, he⟩ => ?_
 iterate 2
   · cbv
     repeat' first | (refine Stp.mk ?_; cbv) | (refine Gen.mk fun r hr => ?_; (try simp only [Dat.ok, Dat.dec, Leaf.ok, Leaf.val, Z0, Z1, Z2, Z3, Z4, Z5, Z6, Z7, val_sl, val_nil] at hr); cbv) | exact trivial | rfl | refine Both.mk ?_ ?_ | (refine Imp.mk fun h => ?_; (try dsimp only at h); (try simp only [nc, Int.toNat_natCast, ne_eq, zz] at h); (try simp only [nc] at h)) | refine Ob.mk ?_ ?_ | refine Chk.mk (by kernel_rfl) ?_ | refine Eq'.mk ?_ | (refine AllN.mk fun i hi => ?_; cbv) | (refine AllC.mk fun c hc hcm => ?_; (try dsimp only at hc); cbv) | (refine AllS.mk fun r hr => ?_; (try simp only [Dat.ok, Dat.dec, Leaf.ok, Leaf.val, Z0, Z1, Z2, Z3, Z4, Z5, Z6, Z7, val_sl] at hr); cbv)
 · cbv
   repeat' first | (show Stp _; exfalso; first | omega | (exact h ‹_›) | (exact absurd ‹_› h) | (exact Bool.false_ne_true (h.symm.trans (show _ = true by assumption)))) | (refine Stp.mk ?_; cbv) | (refine Gen.mk fun r hr => ?_; (try simp only [Dat.ok, Dat.dec, Leaf.ok, Leaf.val, Z0, Z1, Z2, Z3, Z4, Z5, Z6, Z7, val_sl, val_nil] at hr); cbv) | exact trivial | rfl | refine Both.mk ?_ ?_ | (refine Imp.mk fun h => ?_; (try dsimp only at h); (try simp only [nc, Int.toNat_natCast, ne_eq, zz] at h); (try simp only [nc] at h)) | refine Ob.mk ?_ ?_ | refine Chk.mk (by kernel_rfl) ?_ | refine Eq'.mk ?_ | (refine AllN.mk fun i hi => ?_; cbv) | (refine AllC.mk fun c hc hcm => ?_; (try dsimp only at hc); cbv) | (refine AllS.mk fun r hr => ?_; (try simp only [Dat.ok, Dat.dec, Leaf.ok, Leaf.val, Z0, Z1, Z2, Z3, Z4, Z5, Z6, Z7, val_sl] at hr); cbv)
   all_goals ((try dsimp only at *); (try simp only [nc, Int.toNat_natCast, ne_eq, zz] at *); (try simp only [nc] at *))
   all_goals try have hx := all_get (k := j) (by omega) hal
   all_goals try have hgf := gcd_facts c1 hx.1
   all_goals try (have e1 : (l.getD j Dat.d0).tdiv (gcdV c (l.getD j Dat.d0)) = l.getD j Dat.d0 / gcdV c (l.getD j Dat.d0) := Int.tdiv_eq_ediv_of_nonneg (by omega))
   all_goals try rw [e1]
   all_goals have e2 : (1099511627776 : Int).tdiv c = 1099511627776 / c := Int.tdiv_eq_ediv_of_nonneg (by decide)
   all_goals try rw [e2]
   all_goals try rw [e1, e2] at h
   all_goals try (have e3 : 1 ≤ l.getD j Dat.d0 / gcdV c (l.getD j Dat.d0) := (Int.le_ediv_iff_mul_le (by omega)).2 (by omega))
   all_goals try (have e4 : l.getD j Dat.d0 / gcdV c (l.getD j Dat.d0) ≤ 1099511627776 := Int.le_trans (Int.ediv_le_self _ (by omega)) hx.2)
   all_goals have e5 : 1099511627776 / c ≤ 1099511627776 := Int.ediv_le_self _ (by decide)
   all_goals have e8 : 0 ≤ 1099511627776 / c := Int.ediv_nonneg (by decide) (by omega)
   all_goals try (
     have e6 : c * (l.getD j Dat.d0 / gcdV c (l.getD j Dat.d0)) ≤ 1099511627776 := by
       have h6 : l.getD j Dat.d0 / gcdV c (l.getD j Dat.d0) ≤ 1099511627776 / c := by omega
       rw [Int.mul_comm]
       exact (Int.le_ediv_iff_mul_le (by omega)).1 h6
     have e7 : 1 * 1 ≤ c * (l.getD j Dat.d0 / gcdV c (l.getD j Dat.d0)) := Int.mul_le_mul c1 e3 (by decide) (by omega))
   all_goals first
     | omega
     | exact ⟨by omega, by omega⟩
     | (unfold InR; omega)
     | (refine ⟨by omega, ?_⟩; unfold InR; omega)
     | (rw [he, lcm_drop (by omega), if_pos (by assumption)]; done)
     | (refine ⟨⟨j + 1, c * (l.getD j Dat.d0 / gcdV c (l.getD j Dat.d0)), by omega, by omega, by omega, by rw [he, lcm_drop (by omega), if_neg (by omega)]⟩, ?_, ?_, rfl, by (try dsimp only); omega⟩
        · cbv
          repeat' first | (refine Stp.mk ?_; cbv) | (refine Gen.mk fun r hr => ?_; (try simp only [Dat.ok, Dat.dec, Leaf.ok, Leaf.val, Z0, Z1, Z2, Z3, Z4, Z5, Z6, Z7, val_sl, val_nil] at hr); cbv) | exact trivial | rfl | refine Both.mk ?_ ?_ | (refine Imp.mk fun h => ?_; (try dsimp only at h); (try simp only [nc, Int.toNat_natCast, ne_eq, zz] at h); (try simp only [nc] at h)) | refine Ob.mk ?_ ?_ | refine Chk.mk (by kernel_rfl) ?_ | refine Eq'.mk ?_ | (refine AllN.mk fun i hi => ?_; cbv) | (refine AllC.mk fun c hc hcm => ?_; (try dsimp only at hc); cbv) | (refine AllS.mk fun r hr => ?_; (try simp only [Dat.ok, Dat.dec, Leaf.ok, Leaf.val, Z0, Z1, Z2, Z3, Z4, Z5, Z6, Z7, val_sl] at hr); cbv)
          all_goals first
            | rfl
            | (rw [e1]; done)
            | fail
        · cbv
          repeat' first | (refine Stp.mk ?_; cbv) | (refine Gen.mk fun r hr => ?_; (try simp only [Dat.ok, Dat.dec, Leaf.ok, Leaf.val, Z0, Z1, Z2, Z3, Z4, Z5, Z6, Z7, val_sl, val_nil] at hr); cbv) | exact trivial | rfl | refine Both.mk ?_ ?_ | (refine Imp.mk fun h => ?_; (try dsimp only at h); (try simp only [nc, Int.toNat_natCast, ne_eq, zz] at h); (try simp only [nc] at h)) | refine Ob.mk ?_ ?_ | refine Chk.mk (by kernel_rfl) ?_ | refine Eq'.mk ?_ | (refine AllN.mk fun i hi => ?_; cbv) | (refine AllC.mk fun c hc hcm => ?_; (try dsimp only at hc); cbv) | (refine AllS.mk fun r hr => ?_; (try simp only [Dat.ok, Dat.dec, Leaf.ok, Leaf.val, Z0, Z1, Z2, Z3, Z4, Z5, Z6, Z7, val_sl] at hr); cbv))
     | (rw [he, List.drop_eq_nil_of_le (by omega)]; rfl)
     | fail
theorem lcmN_ok : PcOk Tryz.prog 47 (detPC lcmN_D) := det_okA fun A p r h hp0 => by
 unfold lcmN_D at h
 split at h
 · rename_i l
   cases h
   obtain ⟨g0, hp⟩ := hp0
   exact ⟨rfl, FnOk.pre (A' := [Leaf.av fun _ => (Leaf.val l : (List Int))]) (lcmN_vc (Leaf.val l) hp) (.mk (Leaf.hle _ g0) (trivial))⟩
 · cases h

end Go.Proofs.YtnjngpjkhddnfaaGreatDoor
