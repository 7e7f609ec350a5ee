/- slices.Compact of numbers, walked. -/
import Derived.Test.YtnjngpjkhddnfaaGreatDoorAbsG4
import Derived.Test.YtnjngpjkhddnfaaGreatDoorTy
set_option linter.all false
namespace Go.Proofs.YtnjngpjkhddnfaaGreatDoor
open Go Go.Abs

def compR : Int → List Int → List Int
 | _, [] => []
 | a, x :: r => if x = a then compR a r else x :: compR x r
def compactL : List Int → List Int
 | [] => []
 | x :: r => x :: compR x r
theorem compR_drop {l : List Int} {k : Nat} {a : Int} (hk : k < l.length) : compR a (l.drop k) = if l.getD k Dat.d0 = a then compR a (l.drop (k + 1)) else l.getD k Dat.d0 :: compR (l.getD k Dat.d0) (l.drop (k + 1)) := by
 rw [drop_cons Dat.d0 hk, compR]
theorem compact_start {l : List Int} (h : 0 < l.length) : compactL l = l.take 1 ++ compR (l.getD 0 Dat.d0) (l.drop 1) := by
 cases l with
 | nil => simp at h
 | cons x r => simp [compactL]
structure Cp1 (l : List Int) where
 k : Nat
 h1 : 1 ≤ k
 hk : k ≤ l.length
 he : compactL l = l.take k ++ compR (l.getD (k - 1) Dat.d0) (l.drop k)
structure Cp2 (l : List Int) (k0 : Nat) where
 k : Nat
 j : Nat
 v : List Int
 hl : v.length = l.length
 h1 : 1 ≤ k
 h2 : 1 ≤ j
 hj : k0 + j ≤ l.length
 hk : k ≤ k0 + j - 1
 hu : ∀ i, k0 + j - 1 ≤ i → v.getD i Dat.d0 = l.getD i Dat.d0
 he : compactL l = v.take k ++ compR (l.getD (k0 + j - 1) Dat.d0) (l.drop (k0 + j))
theorem set_take {v : List Int} {k : Nat} {x : Int} (hk : k < v.length) : (v.set k x).take (k + 1) = v.take k ++ [x] := by
 rw [List.take_succ_eq_append_getElem (by simpa using hk), List.take_set_of_le (Nat.le_refl _), List.getElem_set_self]
def dCp : FuncId → Option Dt := fun f => match f with
 | _ => none
theorem dCp_ok : DetOk Tryz.prog dCp := fun f d h => by
 unfold dCp at h
 split at h
 · cases h
def cpInt_P (l : List Int)  : Prop := l.length ≤ 4611686018427387903
def cpInt_F (l : List Int)  : List Int := compactL l
def cpInt_N (l : List Int)  : Nat := (compactL l).length
def cpInt_S : OwnS Int := { pre := fun r l => match r with | [] => cpInt_P l | _ => False, fin := fun r l => match r with | [] => cpInt_F l | _ => l, res := some (fun r l => match r with | [] => cpInt_N l | _ => 0), kl := false }
noncomputable def cpInt_K : Con := ownCon Int 3 cpInt_S
set_option maxRecDepth 100000 in
set_option maxHeartbeats 4000000 in
theorem cpInt_vc (l : List Int)  (hp : cpInt_P l) : FnOk Tryz.prog 71 [.own 0 fun _ => l.length] [vecO 3 fun _ => l] (outLe 1 (.own 0 fun _ => cpInt_N l) [vecO 3 fun _ => cpInt_F l] []) := by
 refine fn_ok envOk zl noCon_ok (draws_ok envOk zl dCp_ok mixed) (keep := [0, 2, 3, 4, 5, 8, 13, 25, 32, 44]) Tryz.func71 rfl ?_
 have hp' : l.length ≤ 4611686018427387903 := hp
 have fin : ∀ (k : Nat) (v : List Int), compactL l = v.take k → k ≤ v.length → outLe 1 (.own 0 fun _ => (compactL l).length) [vecO 3 fun _ => compactL l] [] (.own 0 fun _ => k) [.vec 3 1 (fun _ => k) fun i => Dat.enc fun _ => v.getD (i ()) Dat.d0] [] := fun k v h1 h2 => by
   rw [h1]
   cbv
   repeat' first | (refine Stp.mk ?_; cbv) | (refine Gen.mk fun r hr => ?_; (try simp only [Dat.ok, Dat.dec, Leaf.ok, Leaf.val, Z0, Z1, Z2, Z3, Z4, Z5, Z6, Z7, val_sl, val_nil] at hr); cbv) | exact trivial | rfl | refine Both.mk ?_ ?_ | (refine Imp.mk fun h => ?_; (try dsimp only at h); (try simp only [nc, Int.toNat_natCast, ne_eq, zz] at h); (try simp only [nc] at h)) | refine Ob.mk ?_ ?_ | refine Chk.mk (by kernel_rfl) ?_ | refine Eq'.mk ?_ | (refine AllN.mk fun i hi => ?_; cbv) | (refine AllC.mk fun c hc hcm => ?_; (try dsimp only at hc); cbv) | (refine AllS.mk fun r hr => ?_; (try simp only [Dat.ok, Dat.dec, Leaf.ok, Leaf.val, Z0, Z1, Z2, Z3, Z4, Z5, Z6, Z7, val_sl] at hr); cbv)
   all_goals ((try dsimp only at *); (try simp only [nc, Int.toNat_natCast, ne_eq, zz] at *); (try simp only [nc] at *))
   all_goals first
     | (rw [List.length_take]; omega)
     | (rw [List.length_take]; simp; omega)
     | (rw [gd_take _ _ _ _ (by assumption)]; done)
     | fail
 have ge : outLe 1 (.own 0 fun _ => cpInt_N l) [vecO 3 fun _ => cpInt_F l] [] = outLe 1 (.own 0 fun _ => (compactL l).length) [vecO 3 fun _ => compactL l] [] := rfl
 rw [ge]
 clear ge
 generalize outLe 1 (.own 0 fun _ => (compactL l).length) [vecO 3 fun _ => compactL l] [] = K at fin ⊢
 cbv
 repeat' first | (show Stp _; exfalso; first | omega | (exact h ‹_›) | (exact absurd ‹_› h) | (exact Bool.false_ne_true (h.symm.trans (show _ = true by assumption)))) | (refine Stp.mk ?_; cbv) | (refine Gen.mk fun r hr => ?_; (try simp only [Dat.ok, Dat.dec, Leaf.ok, Leaf.val, Z0, Z1, Z2, Z3, Z4, Z5, Z6, Z7, val_sl, val_nil] at hr); cbv) | exact trivial | rfl | refine Both.mk ?_ ?_ | (refine Imp.mk fun h => ?_; (try dsimp only at h); (try simp only [nc, Int.toNat_natCast, ne_eq, zz] at h); (try simp only [nc] at h)) | refine Ob.mk ?_ ?_ | refine Chk.mk (by kernel_rfl) ?_ | refine Eq'.mk ?_ | (refine AllN.mk fun i hi => ?_; cbv) | (refine AllC.mk fun c hc hcm => ?_; (try dsimp only at hc); cbv) | (refine AllS.mk fun r hr => ?_; (try simp only [Dat.ok, Dat.dec, Leaf.ok, Leaf.val, Z0, Z1, Z2, Z3, Z4, Z5, Z6, Z7, val_sl] at hr); cbv)
 all_goals ((try dsimp only at *); (try simp only [nc, Int.toNat_natCast, ne_eq, zz] at *); (try simp only [nc] at *))
 all_goals try rw [nc] at *
 all_goals first
   | (refine fin l.length l ?_ (Nat.le_refl _)
      rw [List.take_length]
      match l, h with
      | [], _ => rfl
      | [x], _ => rfl
      | x :: y :: r, h => simp at h; omega)
   | skip
 refine LoopVC.frame [2, 3, 4, 5, 13, 25, 32, 44] (Cp1 l) (fun x => [(3, .i .i64 fun _ => x.k)]) (fun _ => []) [] (fun x => l.length - x.k) ⟨1, Nat.le_refl _, by omega, compact_start (by omega)⟩ rfl (fun _ => rfl) ?_ ?_ fun ⟨k0, h1, hk, he⟩ => ?_
 iterate 2
   · cbv
     repeat' first | (refine Stp.mk ?_; cbv) | (refine Gen.mk fun r hr => ?_; (try simp only [Dat.ok, Dat.dec, Leaf.ok, Leaf.val, Z0, Z1, Z2, Z3, Z4, Z5, Z6, Z7, val_sl, val_nil] at hr); cbv) | exact trivial | rfl | refine Both.mk ?_ ?_ | (refine Imp.mk fun h => ?_; (try dsimp only at h); (try simp only [nc, Int.toNat_natCast, ne_eq, zz] at h); (try simp only [nc] at h)) | refine Ob.mk ?_ ?_ | refine Chk.mk (by kernel_rfl) ?_ | refine Eq'.mk ?_ | (refine AllN.mk fun i hi => ?_; cbv) | (refine AllC.mk fun c hc hcm => ?_; (try dsimp only at hc); cbv) | (refine AllS.mk fun r hr => ?_; (try simp only [Dat.ok, Dat.dec, Leaf.ok, Leaf.val, Z0, Z1, Z2, Z3, Z4, Z5, Z6, Z7, val_sl] at hr); cbv)
 · have hlast : k0 - 1 < l.length := by omega
   cbv
   repeat' first | (show Stp _; exfalso; first | omega | (exact h ‹_›) | (exact absurd ‹_› h) | (exact Bool.false_ne_true (h.symm.trans (show _ = true by assumption)))) | (refine Stp.mk ?_; cbv) | (refine Gen.mk fun r hr => ?_; (try simp only [Dat.ok, Dat.dec, Leaf.ok, Leaf.val, Z0, Z1, Z2, Z3, Z4, Z5, Z6, Z7, val_sl, val_nil] at hr); cbv) | exact trivial | rfl | refine Both.mk ?_ ?_ | (refine Imp.mk fun h => ?_; (try dsimp only at h); (try simp only [nc, Int.toNat_natCast, ne_eq, zz] at h); (try simp only [nc] at h)) | refine Ob.mk ?_ ?_ | refine Chk.mk (by kernel_rfl) ?_ | refine Eq'.mk ?_ | (refine AllN.mk fun i hi => ?_; cbv) | (refine AllC.mk fun c hc hcm => ?_; (try dsimp only at hc); cbv) | (refine AllS.mk fun r hr => ?_; (try simp only [Dat.ok, Dat.dec, Leaf.ok, Leaf.val, Z0, Z1, Z2, Z3, Z4, Z5, Z6, Z7, val_sl] at hr); cbv)
   all_goals ((try dsimp only at *); (try simp only [nc, Int.toNat_natCast, ne_eq, zz] at *); (try simp only [nc] at *))
   all_goals try rw [nc] at *
   all_goals have e0 : ((k0 : Int) - 1).toNat = k0 - 1 := by omega
   all_goals try simp only [e0] at *
   all_goals first
     | omega
     | (unfold InR; omega)
     | (have hk2 : k0 < l.length := by omega
        have hd : ¬ l.getD k0 Dat.d0 = l.getD (k0 - 1) Dat.d0 := by assumption
        refine ⟨⟨k0 + 1, by omega, by omega, ?_⟩, ?_, ?_, rfl, by (try dsimp only); omega⟩
        · rw [he, compR_drop hk2, if_neg hd, take_snoc Dat.d0 hk2]
          simp
        · cbv
          repeat' first | (refine Stp.mk ?_; cbv) | (refine Gen.mk fun r hr => ?_; (try simp only [Dat.ok, Dat.dec, Leaf.ok, Leaf.val, Z0, Z1, Z2, Z3, Z4, Z5, Z6, Z7, val_sl, val_nil] at hr); cbv) | exact trivial | rfl | refine Both.mk ?_ ?_ | (refine Imp.mk fun h => ?_; (try dsimp only at h); (try simp only [nc, Int.toNat_natCast, ne_eq, zz] at h); (try simp only [nc] at h)) | refine Ob.mk ?_ ?_ | refine Chk.mk (by kernel_rfl) ?_ | refine Eq'.mk ?_ | (refine AllN.mk fun i hi => ?_; cbv) | (refine AllC.mk fun c hc hcm => ?_; (try dsimp only at hc); cbv) | (refine AllS.mk fun r hr => ?_; (try simp only [Dat.ok, Dat.dec, Leaf.ok, Leaf.val, Z0, Z1, Z2, Z3, Z4, Z5, Z6, Z7, val_sl] at hr); cbv)
        · cbv
          repeat' first | (refine Stp.mk ?_; cbv) | (refine Gen.mk fun r hr => ?_; (try simp only [Dat.ok, Dat.dec, Leaf.ok, Leaf.val, Z0, Z1, Z2, Z3, Z4, Z5, Z6, Z7, val_sl, val_nil] at hr); cbv) | exact trivial | rfl | refine Both.mk ?_ ?_ | (refine Imp.mk fun h => ?_; (try dsimp only at h); (try simp only [nc, Int.toNat_natCast, ne_eq, zz] at h); (try simp only [nc] at h)) | refine Ob.mk ?_ ?_ | refine Chk.mk (by kernel_rfl) ?_ | refine Eq'.mk ?_ | (refine AllN.mk fun i hi => ?_; cbv) | (refine AllC.mk fun c hc hcm => ?_; (try dsimp only at hc); cbv) | (refine AllS.mk fun r hr => ?_; (try simp only [Dat.ok, Dat.dec, Leaf.ok, Leaf.val, Z0, Z1, Z2, Z3, Z4, Z5, Z6, Z7, val_sl] at hr); cbv))
     | (refine fin l.length l ?_ (Nat.le_refl _)
        have : k0 = l.length := by omega
        subst this
        rw [he, List.drop_length]
        simp [compR])
     | skip
   have hk2 : k0 < l.length := by omega
   have hd : l.getD k0 Dat.d0 = l.getD (k0 - 1) Dat.d0 := by assumption
   refine LoopVC.frame [3, 5, 32, 44] (Cp2 l k0) (fun x => [(3, .i .i64 fun _ => x.k), (5, .i .i64 fun _ => x.j)]) (fun x => [(0, vecO 3 fun _ => x.v)]) [] (fun x => l.length - x.j)
     ⟨k0, 1, l, rfl, h1, Nat.le_refl _, by omega, by omega, fun _ _ => rfl, by rw [he, compR_drop hk2, if_pos hd, Nat.add_sub_cancel, hd]⟩ rfl (fun _ => rfl) ?_ ?_ fun ⟨k, j, v, hl, g1, g2, hj, hkj, hu, he2⟩ => ?_
   iterate 2
     · cbv
       repeat' first | (refine Stp.mk ?_; cbv) | (refine Gen.mk fun r hr => ?_; (try simp only [Dat.ok, Dat.dec, Leaf.ok, Leaf.val, Z0, Z1, Z2, Z3, Z4, Z5, Z6, Z7, val_sl, val_nil] at hr); cbv) | exact trivial | rfl | refine Both.mk ?_ ?_ | (refine Imp.mk fun h => ?_; (try dsimp only at h); (try simp only [nc, Int.toNat_natCast, ne_eq, zz] at h); (try simp only [nc] at h)) | refine Ob.mk ?_ ?_ | refine Chk.mk (by kernel_rfl) ?_ | refine Eq'.mk ?_ | (refine AllN.mk fun i hi => ?_; cbv) | (refine AllC.mk fun c hc hcm => ?_; (try dsimp only at hc); cbv) | (refine AllS.mk fun r hr => ?_; (try simp only [Dat.ok, Dat.dec, Leaf.ok, Leaf.val, Z0, Z1, Z2, Z3, Z4, Z5, Z6, Z7, val_sl] at hr); cbv)
   · cbv
     repeat' first | (show Stp _; exfalso; first | omega | (exact h ‹_›) | (exact absurd ‹_› h) | (exact Bool.false_ne_true (h.symm.trans (show _ = true by assumption)))) | (refine Stp.mk ?_; cbv) | (refine Gen.mk fun r hr => ?_; (try simp only [Dat.ok, Dat.dec, Leaf.ok, Leaf.val, Z0, Z1, Z2, Z3, Z4, Z5, Z6, Z7, val_sl, val_nil] at hr); cbv) | exact trivial | rfl | refine Both.mk ?_ ?_ | (refine Imp.mk fun h => ?_; (try dsimp only at h); (try simp only [nc, Int.toNat_natCast, ne_eq, zz] at h); (try simp only [nc] at h)) | refine Ob.mk ?_ ?_ | refine Chk.mk (by kernel_rfl) ?_ | refine Eq'.mk ?_ | (refine AllN.mk fun i hi => ?_; cbv) | (refine AllC.mk fun c hc hcm => ?_; (try dsimp only at hc); cbv) | (refine AllS.mk fun r hr => ?_; (try simp only [Dat.ok, Dat.dec, Leaf.ok, Leaf.val, Z0, Z1, Z2, Z3, Z4, Z5, Z6, Z7, val_sl] at hr); cbv)
     all_goals ((try dsimp only at *); (try simp only [nc, Int.toNat_natCast, ne_eq, zz] at *); (try simp only [nc] at *))
     all_goals try rw [nc] at *
     all_goals have e1 : k0 + ((j : Int) - 1).toNat = k0 + j - 1 := by omega
     all_goals try simp only [e1] at *
     all_goals first
       | omega
       | (unfold InR; omega)
       | exact ⟨trivial, by omega, by omega⟩
       | (have hj2 : k0 + j < l.length := by omega
          have u1 := hu (k0 + j) (by omega)
          have u2 := hu (k0 + j - 1) (by omega)
          have hd2 : ¬ v.getD (k0 + j) Dat.d0 = v.getD (k0 + j - 1) Dat.d0 := by assumption
          rw [u1, u2] at hd2
          refine ⟨⟨k + 1, j + 1, v.set k (v.getD (k0 + j) Dat.d0), by rw [List.length_set]; exact hl, by omega, by omega, by omega, by omega, fun i hi => ?_, ?_⟩, ?_, ?_, rfl, by (try dsimp only); omega⟩
          · rw [← hu i (by omega), List.getD_eq_getElem?_getD, List.getElem?_set_ne (by omega), List.getD_eq_getElem?_getD]
          · rw [he2, compR_drop hj2, if_neg hd2, set_take (by omega), u1, show k0 + (j + 1) - 1 = k0 + j by omega, show k0 + (j + 1) = k0 + j + 1 by omega]
            simp
          · cbv
            repeat' first | (refine Stp.mk ?_; cbv) | (refine Gen.mk fun r hr => ?_; (try simp only [Dat.ok, Dat.dec, Leaf.ok, Leaf.val, Z0, Z1, Z2, Z3, Z4, Z5, Z6, Z7, val_sl, val_nil] at hr); cbv) | exact trivial | rfl | refine Both.mk ?_ ?_ | (refine Imp.mk fun h => ?_; (try dsimp only at h); (try simp only [nc, Int.toNat_natCast, ne_eq, zz] at h); (try simp only [nc] at h)) | refine Ob.mk ?_ ?_ | refine Chk.mk (by kernel_rfl) ?_ | refine Eq'.mk ?_ | (refine AllN.mk fun i hi => ?_; cbv) | (refine AllC.mk fun c hc hcm => ?_; (try dsimp only at hc); cbv) | (refine AllS.mk fun r hr => ?_; (try simp only [Dat.ok, Dat.dec, Leaf.ok, Leaf.val, Z0, Z1, Z2, Z3, Z4, Z5, Z6, Z7, val_sl] at hr); cbv)
          · cbv
            repeat' first | (refine Stp.mk ?_; cbv) | (refine Gen.mk fun r hr => ?_; (try simp only [Dat.ok, Dat.dec, Leaf.ok, Leaf.val, Z0, Z1, Z2, Z3, Z4, Z5, Z6, Z7, val_sl, val_nil] at hr); cbv) | exact trivial | rfl | refine Both.mk ?_ ?_ | (refine Imp.mk fun h => ?_; (try dsimp only at h); (try simp only [nc, Int.toNat_natCast, ne_eq, zz] at h); (try simp only [nc] at h)) | refine Ob.mk ?_ ?_ | refine Chk.mk (by kernel_rfl) ?_ | refine Eq'.mk ?_ | (refine AllN.mk fun i hi => ?_; cbv) | (refine AllC.mk fun c hc hcm => ?_; (try dsimp only at hc); cbv) | (refine AllS.mk fun r hr => ?_; (try simp only [Dat.ok, Dat.dec, Leaf.ok, Leaf.val, Z0, Z1, Z2, Z3, Z4, Z5, Z6, Z7, val_sl] at hr); cbv)
            all_goals ((try dsimp only at *); (try simp only [nc, Int.toNat_natCast, ne_eq, zz] at *); (try simp only [nc] at *))
            all_goals first
              | (rw [List.length_set]; done)
              | exact (gd_set v _ Dat.d0 i k hi).symm
              | fail)
       | (have hj2 : k0 + j < l.length := by omega
          have u1 := hu (k0 + j) (by omega)
          have u2 := hu (k0 + j - 1) (by omega)
          have hd2 : v.getD (k0 + j) Dat.d0 = v.getD (k0 + j - 1) Dat.d0 := by assumption
          rw [u1, u2] at hd2
          refine ⟨⟨k, j + 1, v, hl, by omega, by omega, by omega, by omega, fun i hi => hu i (by omega), ?_⟩, ?_, ?_, rfl, by (try dsimp only); omega⟩
          · rw [he2, compR_drop hj2, if_pos hd2, show k0 + (j + 1) - 1 = k0 + j by omega, show k0 + (j + 1) = k0 + j + 1 by omega, hd2]
          · cbv
            repeat' first | (refine Stp.mk ?_; cbv) | (refine Gen.mk fun r hr => ?_; (try simp only [Dat.ok, Dat.dec, Leaf.ok, Leaf.val, Z0, Z1, Z2, Z3, Z4, Z5, Z6, Z7, val_sl, val_nil] at hr); cbv) | exact trivial | rfl | refine Both.mk ?_ ?_ | (refine Imp.mk fun h => ?_; (try dsimp only at h); (try simp only [nc, Int.toNat_natCast, ne_eq, zz] at h); (try simp only [nc] at h)) | refine Ob.mk ?_ ?_ | refine Chk.mk (by kernel_rfl) ?_ | refine Eq'.mk ?_ | (refine AllN.mk fun i hi => ?_; cbv) | (refine AllC.mk fun c hc hcm => ?_; (try dsimp only at hc); cbv) | (refine AllS.mk fun r hr => ?_; (try simp only [Dat.ok, Dat.dec, Leaf.ok, Leaf.val, Z0, Z1, Z2, Z3, Z4, Z5, Z6, Z7, val_sl] at hr); cbv)
          · cbv
            repeat' first | (refine Stp.mk ?_; cbv) | (refine Gen.mk fun r hr => ?_; (try simp only [Dat.ok, Dat.dec, Leaf.ok, Leaf.val, Z0, Z1, Z2, Z3, Z4, Z5, Z6, Z7, val_sl, val_nil] at hr); cbv) | exact trivial | rfl | refine Both.mk ?_ ?_ | (refine Imp.mk fun h => ?_; (try dsimp only at h); (try simp only [nc, Int.toNat_natCast, ne_eq, zz] at h); (try simp only [nc] at h)) | refine Ob.mk ?_ ?_ | refine Chk.mk (by kernel_rfl) ?_ | refine Eq'.mk ?_ | (refine AllN.mk fun i hi => ?_; cbv) | (refine AllC.mk fun c hc hcm => ?_; (try dsimp only at hc); cbv) | (refine AllS.mk fun r hr => ?_; (try simp only [Dat.ok, Dat.dec, Leaf.ok, Leaf.val, Z0, Z1, Z2, Z3, Z4, Z5, Z6, Z7, val_sl] at hr); cbv))
       | (refine fin k v ?_ (by omega)
          rw [he2, List.drop_eq_nil_of_le (by omega), compR, List.append_nil])
       | fail
theorem cpInt_ok {A : List AV} {H : Hp} {K : Kont} (h : cpInt_K A H K) : FnOk Tryz.prog 71 A H K := ownCon_ok (fun _ _ h => by cases h) (fun rest d _ hp => by
 have hp : (match (generalizing := false) rest with | [] => cpInt_P d | _ => False) := hp
 split at hp
 · exact cpInt_vc d hp
 · cases hp) h

end Go.Proofs.YtnjngpjkhddnfaaGreatDoor
