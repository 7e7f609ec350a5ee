/- The functions of package task, walked. -/
import Derived.Test.YtnjngpjkhddnfaaGreatDoorQuoB
import Derived.Test.YtnjngpjkhddnfaaGreatDoorLcmS
import Derived.Test.YtnjngpjkhddnfaaGreatDoorSupP
import Derived.Test.YtnjngpjkhddnfaaGreatDoorBs
import Derived.Test.YtnjngpjkhddnfaaGreatDoorCompact
import Derived.Test.YtnjngpjkhddnfaaGreatDoorSortI
set_option linter.all false
namespace Go.Proofs.YtnjngpjkhddnfaaGreatDoor
open Go Go.Abs

def roundV (l : List Task) : Int × Int := if tchkV l = 0 then lcmV (l.map (·.every)) else (0, tchkV l)
structure RnX (l : List Task) where
 k : Nat
 hk : k ≤ l.length
def rnd_R (r : Th (Int × Int)) : AV := .tup [.i .i64 fun _ => (r ()).1, .i .i64 fun _ => (r ()).2]
def rnd_P (l : (List Task)) : Prop := l.length ≤ 9223372036854775807
def rnd_D : Det := fun A => match A with
 | [l] => some (fun _ => Leaf.ok (List Task) l ∧ rnd_P (Leaf.val l), rnd_R fun _ => roundV (Leaf.val l))
 | _ => none
noncomputable def cRn : FuncId → Con := fun f => match f with
 | 36 => pureCon (detPC tchk_D)
 | 47 => pureCon (detPC lcmN_D)
 | _ => fun _ _ _ => Bad 1001
theorem cRn_ok : ConOk Tryz.prog cRn := fun f A H K h => by
 unfold cRn at h
 split at h
 · exact ⟨⟨Tryz.f36, Tryz.func36, by kernel_rfl, by kernel_rfl⟩, pureCon_ok tchk_ok h⟩
 · exact ⟨⟨Tryz.f47, Tryz.func47, by kernel_rfl, by kernel_rfl⟩, pureCon_ok lcmN_ok h⟩
 · cases h
set_option maxRecDepth 100000 in
set_option maxHeartbeats 4000000 in
theorem rnd_vc (l : (List Task)) (hp : rnd_P l) : FnOk Tryz.prog 45 [Leaf.av fun _ => l] [] (outA (rnd_R fun _ => roundV l) []) := by
 refine fn_ok envOk zl cRn_ok noDraws_ok (keep := [0, 2, 3, 4, 5, 7, 11, 13, 14, 15, 16]) Tryz.func45 rfl ?_
 have hp' : l.length ≤ 9223372036854775807 := hp
 have fin : ∀ a e H kl, roundV l = (a, e) → outA (rnd_R fun _ => roundV l) [] (.tup [.i .i64 fun _ => a, .i .i64 fun _ => e]) H kl := fun a e H kl h => by
   rw [h]
   cbv
   repeat' first | (refine Stp.mk ?_; cbv) | (refine Gen.mk fun r hr => ?_; (try simp only [Dat.ok, Dat.dec, Leaf.ok, Leaf.val, Z0, Z1, Z2, Z3, Z4, Z5, Z6, Z7, val_sl, val_nil] at hr); cbv) | exact trivial | rfl | refine Both.mk ?_ ?_ | (refine Imp.mk fun h => ?_; (try dsimp only at h); (try simp only [nc, Int.toNat_natCast, ne_eq, zz] at h); (try simp only [nc] at h)) | refine Ob.mk ?_ ?_ | refine Chk.mk (by kernel_rfl) ?_ | refine Eq'.mk ?_ | (refine AllN.mk fun i hi => ?_; cbv) | (refine AllC.mk fun c hc hcm => ?_; (try dsimp only at hc); cbv) | (refine AllS.mk fun r hr => ?_; (try simp only [Dat.ok, Dat.dec, Leaf.ok, Leaf.val, Z0, Z1, Z2, Z3, Z4, Z5, Z6, Z7, val_sl] at hr); cbv)
 generalize outA (rnd_R fun _ => roundV l) [] = K at fin ⊢
 cbv
 repeat' first | (show Stp _; exfalso; first | omega | (exact h ‹_›) | (exact absurd ‹_› h) | (exact Bool.false_ne_true (h.symm.trans (show _ = true by assumption)))) | (refine Stp.mk ?_; cbv) | (refine Gen.mk fun r hr => ?_; (try simp only [Dat.ok, Dat.dec, Leaf.ok, Leaf.val, Z0, Z1, Z2, Z3, Z4, Z5, Z6, Z7, val_sl, val_nil] at hr); cbv) | exact trivial | rfl | refine Both.mk ?_ ?_ | (refine Imp.mk fun h => ?_; (try dsimp only at h); (try simp only [nc, Int.toNat_natCast, ne_eq, zz] at h); (try simp only [nc] at h)) | refine Ob.mk ?_ ?_ | refine Chk.mk (by kernel_rfl) ?_ | refine Eq'.mk ?_ | (refine AllN.mk fun i hi => ?_; cbv) | (refine AllC.mk fun c hc hcm => ?_; (try dsimp only at hc); cbv) | (refine AllS.mk fun r hr => ?_; (try simp only [Dat.ok, Dat.dec, Leaf.ok, Leaf.val, Z0, Z1, Z2, Z3, Z4, Z5, Z6, Z7, val_sl] at hr); cbv)
 all_goals ((try dsimp only at *); (try simp only [nc, Int.toNat_natCast, ne_eq, zz] at *); (try simp only [nc] at *))
 all_goals try simp only [Leaf.val, val_sl] at *
 all_goals first
   | exact ⟨⟨rfl, fun i _ => Dat.hok _⟩, show _ ≤ _ by omega⟩
   | (refine fin _ _ _ _ ?_
      rw [roundV, if_neg (by assumption)])
   | skip
 have hc := tchk_iff.1 (by assumption : tchkV l = 0)
 refine LoopVC.frame [5, 7, 15, 16] (RnX l) (fun x => [(15, .i .i64 fun _ => x.k), (5, .own 0 fun _ => x.k)]) (fun x => [(0, vecO 3 fun _ => (l.take x.k).map (·.every))]) [0] (fun x => l.length - x.k) ⟨0, Nat.zero_le _⟩ rfl (fun _ => rfl) ?_ ?_ fun ⟨k, hk⟩ => ?_
 iterate 2
   · cbv
     repeat' first | (refine Stp.mk ?_; cbv) | (refine Gen.mk fun r hr => ?_; (try simp only [Dat.ok, Dat.dec, Leaf.ok, Leaf.val, Z0, Z1, Z2, Z3, Z4, Z5, Z6, Z7, val_sl, val_nil] at hr); cbv) | exact trivial | rfl | refine Both.mk ?_ ?_ | (refine Imp.mk fun h => ?_; (try dsimp only at h); (try simp only [nc, Int.toNat_natCast, ne_eq, zz] at h); (try simp only [nc] at h)) | refine Ob.mk ?_ ?_ | refine Chk.mk (by kernel_rfl) ?_ | refine Eq'.mk ?_ | (refine AllN.mk fun i hi => ?_; cbv) | (refine AllC.mk fun c hc hcm => ?_; (try dsimp only at hc); cbv) | (refine AllS.mk fun r hr => ?_; (try simp only [Dat.ok, Dat.dec, Leaf.ok, Leaf.val, Z0, Z1, Z2, Z3, Z4, Z5, Z6, Z7, val_sl] at hr); cbv)
 · have hlk : ((l.take k).map (·.every)).length = k := by rw [List.length_map, List.length_take]; omega
   cbv
   repeat' first | (show Stp _; exfalso; first | omega | (exact h ‹_›) | (exact absurd ‹_› h) | (exact Bool.false_ne_true (h.symm.trans (show _ = true by assumption)))) | (refine Stp.mk ?_; cbv) | (refine Gen.mk fun r hr => ?_; (try simp only [Dat.ok, Dat.dec, Leaf.ok, Leaf.val, Z0, Z1, Z2, Z3, Z4, Z5, Z6, Z7, val_sl, val_nil] at hr); cbv) | exact trivial | rfl | refine Both.mk ?_ ?_ | (refine Imp.mk fun h => ?_; (try dsimp only at h); (try simp only [nc, Int.toNat_natCast, ne_eq, zz] at h); (try simp only [nc] at h)) | refine Ob.mk ?_ ?_ | refine Chk.mk (by kernel_rfl) ?_ | refine Eq'.mk ?_ | (refine AllN.mk fun i hi => ?_; cbv) | (refine AllC.mk fun c hc hcm => ?_; (try dsimp only at hc); cbv) | (refine AllS.mk fun r hr => ?_; (try simp only [Dat.ok, Dat.dec, Leaf.ok, Leaf.val, Z0, Z1, Z2, Z3, Z4, Z5, Z6, Z7, val_sl] at hr); cbv)
   all_goals ((try dsimp only at *); (try simp only [nc, Int.toNat_natCast, ne_eq, zz] at *); (try simp only [nc] at *))
   all_goals try rw [nc] at *
   all_goals try simp only [Leaf.val] at *
   all_goals first
     | omega
     | (unfold InR; omega)
     | exact ⟨by omega, trivial, by omega, by omega⟩
     | (have hk2 : k < l.length := by omega
        refine ⟨⟨k + 1, by omega⟩, ?_, ?_, rfl, by (try dsimp only); omega⟩
        · cbv
          repeat' first | (refine Stp.mk ?_; cbv) | (refine Gen.mk fun r hr => ?_; (try simp only [Dat.ok, Dat.dec, Leaf.ok, Leaf.val, Z0, Z1, Z2, Z3, Z4, Z5, Z6, Z7, val_sl, val_nil] at hr); cbv) | exact trivial | rfl | refine Both.mk ?_ ?_ | (refine Imp.mk fun h => ?_; (try dsimp only at h); (try simp only [nc, Int.toNat_natCast, ne_eq, zz] at h); (try simp only [nc] at h)) | refine Ob.mk ?_ ?_ | refine Chk.mk (by kernel_rfl) ?_ | refine Eq'.mk ?_ | (refine AllN.mk fun i hi => ?_; cbv) | (refine AllC.mk fun c hc hcm => ?_; (try dsimp only at hc); cbv) | (refine AllS.mk fun r hr => ?_; (try simp only [Dat.ok, Dat.dec, Leaf.ok, Leaf.val, Z0, Z1, Z2, Z3, Z4, Z5, Z6, Z7, val_sl] at hr); cbv)
        · cbv
          repeat' first | (refine Stp.mk ?_; cbv) | (refine Gen.mk fun r hr => ?_; (try simp only [Dat.ok, Dat.dec, Leaf.ok, Leaf.val, Z0, Z1, Z2, Z3, Z4, Z5, Z6, Z7, val_sl, val_nil] at hr); cbv) | exact trivial | rfl | refine Both.mk ?_ ?_ | (refine Imp.mk fun h => ?_; (try dsimp only at h); (try simp only [nc, Int.toNat_natCast, ne_eq, zz] at h); (try simp only [nc] at h)) | refine Ob.mk ?_ ?_ | refine Chk.mk (by kernel_rfl) ?_ | refine Eq'.mk ?_ | (refine AllN.mk fun i hi => ?_; cbv) | (refine AllC.mk fun c hc hcm => ?_; (try dsimp only at hc); cbv) | (refine AllS.mk fun r hr => ?_; (try simp only [Dat.ok, Dat.dec, Leaf.ok, Leaf.val, Z0, Z1, Z2, Z3, Z4, Z5, Z6, Z7, val_sl] at hr); cbv)
          all_goals ((try dsimp only at *); (try simp only [nc, Int.toNat_natCast, ne_eq, zz] at *); (try simp only [nc] at *))
          all_goals first
            | (rw [List.length_map, List.length_take]; omega)
            | (rw [take_snoc Dat.d0 hk2, List.map_append, List.map_singleton]
               have e := gd_snoc ((l.take k).map (·.every)) (l.getD k Dat.d0).every Dat.d0 i (by omega)
               rw [hlk] at e
               exact e.symm)
            | fail)
     | (have ev := (val_len (α := Int) (l := (l.take k).map (·.every)) (n := k) 1 hlk.symm).trans (show _ = l.map (·.every) by rw [List.take_of_length_le (by omega)])
        first
          | exact ⟨⟨rfl, fun i _ => Dat.hok _⟩, by show (slV _ : List Int).length ≤ _; rw [ev, List.length_map]; omega⟩
          | (refine fin _ _ _ _ ?_
             rw [roundV, if_pos (by assumption), ev]))
     | fail
theorem rnd_ok : PcOk Tryz.prog 45 (detPC rnd_D) := det_okA fun A p r h hp0 => by
 unfold rnd_D at h
 split at h
 · rename_i l
   cases h
   obtain ⟨g0, hp⟩ := hp0
   exact ⟨rfl, FnOk.pre (A' := [Leaf.av fun _ => (Leaf.val l : (List Task))]) (rnd_vc (Leaf.val l) hp) (.mk (Leaf.hle _ g0) (trivial))⟩
 · cases h
def useS (n : Int) : List Task → Int
 | [] => 0
 | t :: r => n.tdiv t.every * t.long + useS n r
theorem round_ok {l : List Task} (h : (roundV l).2 = 0) : l.length ≤ 16 ∧ l.all okT = true ∧ 1 ≤ (roundV l).1 ∧ (roundV l).1 ≤ 1099511627776 ∧ (roundV l).1 = lcmL (l.map (·.every)) := by
 unfold roundV at h ⊢
 by_cases h1 : tchkV l = 0
 · rw [if_pos h1] at h ⊢
   have h2 := tchk_iff.1 h1
   obtain ⟨a1, a2, a3, a4, a5⟩ := lcmV_ok h
   exact ⟨h2.1, h2.2, by omega, by omega, a3⟩
 · rw [if_neg h1] at h; exact absurd h h1
def dem1 (t : Task) (n : Int) : Int := if t.due ≤ n then ((n - t.due).tdiv t.every + 1) * t.long else 0
def demS (n : Int) : List Task → Int
 | [] => 0
 | t :: r => dem1 t n + demS n r
theorem dem_drop {l : List Task} {k : Nat} (n : Int) (hk : k < l.length) : demS n (l.drop k) = dem1 (l.getD k Dat.d0) n + demS n (l.drop (k + 1)) := by
 rw [drop_cons Dat.d0 hk, demS]
structure DmX (l : List Task) (n : Int) where
 k : Nat
 s : Int
 hk : k ≤ l.length
 s0 : 0 ≤ s
 s1 : s ≤ k * 10995116277770000
 he : demS n l = s + demS n (l.drop k)
theorem dem1_bd {t : Task} {n : Int} (h : okT t = true) (h0 : 0 ≤ n) (h1 : n ≤ 1099511627776) : 0 ≤ dem1 t n ∧ dem1 t n ≤ 10995116277770000 ∧ (t.due ≤ n → 0 ≤ (n - t.due).tdiv t.every ∧ (n - t.due).tdiv t.every ≤ 1099511627776) := by
 have ho := okT_iff.1 h
 unfold dem1
 by_cases hd : t.due ≤ n
 · rw [if_pos hd]
   have hq := quo_bd (n := n - t.due) (e := t.every) (g := t.long) (by omega) (by omega) (by omega) (by omega) (by omega)
   rw [Int.add_mul, Int.one_mul]
   exact ⟨by omega, by omega, fun _ => ⟨hq.1, by omega⟩⟩
 · rw [if_neg hd]
   exact ⟨by omega, by omega, fun h => absurd h hd⟩
def dmd_R (r : Th (Int)) : AV := .i .i64 fun _ => (r ())
def dmd_S (l : (List Task)) (n : Int) : Int := demS n l
def dmd_P (l : (List Task)) (n : Int) : Prop := l.length ≤ 16 ∧ l.all okT = true ∧ 0 ≤ n ∧ n ≤ 1099511627776
def dmd_D : Det := fun A => match A with
 | [l, .i .i64 n] => some (fun _ => Leaf.ok (List Task) l ∧ dmd_P (Leaf.val l) (n ()), dmd_R fun _ => dmd_S (Leaf.val l) (n ()))
 | _ => none
def dDm : FuncId → Option Dt := fun f => match f with
 | _ => none
theorem dDm_ok : DetOk Tryz.prog dDm := fun f d h => by
 unfold dDm at h
 split at h
 · cases h
set_option maxRecDepth 100000 in
set_option maxHeartbeats 4000000 in
theorem dmd_vc (l : (List Task)) (n : Int) (hp : dmd_P l n) : FnOk Tryz.prog 50 [Leaf.av fun _ => l, .i .i64 fun _ => n] [] (outA (dmd_R fun _ => dmd_S l n) []) := by
 refine fn_ok envOk zl noCon_ok (draws_ok envOk zl dDm_ok mixed) (keep := [0, 1, 4, 5, 7, 8, 9, 10, 11, 17]) Tryz.func50 rfl ?_
 obtain ⟨r1, r2, r3, r4⟩ : l.length ≤ 16 ∧ l.all okT = true ∧ 0 ≤ n ∧ n ≤ 1099511627776 := hp
 have fin : ∀ a H kl, a = demS n l → outA (dmd_R fun _ => dmd_S l n) [] (.i .i64 fun _ => a) H kl := by
   rintro a H kl rfl
   cbv
   repeat' first | (refine Stp.mk ?_; cbv) | (refine Gen.mk fun r hr => ?_; (try simp only [Dat.ok, Dat.dec, Leaf.ok, Leaf.val, Z0, Z1, Z2, Z3, Z4, Z5, Z6, Z7, val_sl, val_nil] at hr); cbv) | exact trivial | rfl | refine Both.mk ?_ ?_ | (refine Imp.mk fun h => ?_; (try dsimp only at h); (try simp only [nc, Int.toNat_natCast, ne_eq, zz] at h); (try simp only [nc] at h)) | refine Ob.mk ?_ ?_ | refine Chk.mk (by kernel_rfl) ?_ | refine Eq'.mk ?_ | (refine AllN.mk fun i hi => ?_; cbv) | (refine AllC.mk fun c hc hcm => ?_; (try dsimp only at hc); cbv) | (refine AllS.mk fun r hr => ?_; (try simp only [Dat.ok, Dat.dec, Leaf.ok, Leaf.val, Z0, Z1, Z2, Z3, Z4, Z5, Z6, Z7, val_sl] at hr); cbv)
   all_goals rfl
 generalize outA (dmd_R fun _ => dmd_S l n) [] = K at fin ⊢
 cbv
 refine LoopVC.frame [5, 7, 10, 11, 17] (DmX l n) (fun x => [(10, .i .i64 fun _ => x.k), (5, .i .i64 fun _ => x.s)]) (fun _ => []) [] (fun x => l.length - x.k) ⟨0, 0, Nat.zero_le _, Int.le_refl _, by decide, by simp⟩ rfl (fun _ => rfl) ?_ ?_ fun ⟨k, s, hk, s0, s1, he⟩ => ?_
 iterate 2
   · cbv
     repeat' first | (refine Stp.mk ?_; cbv) | (refine Gen.mk fun r hr => ?_; (try simp only [Dat.ok, Dat.dec, Leaf.ok, Leaf.val, Z0, Z1, Z2, Z3, Z4, Z5, Z6, Z7, val_sl, val_nil] at hr); cbv) | exact trivial | rfl | refine Both.mk ?_ ?_ | (refine Imp.mk fun h => ?_; (try dsimp only at h); (try simp only [nc, Int.toNat_natCast, ne_eq, zz] at h); (try simp only [nc] at h)) | refine Ob.mk ?_ ?_ | refine Chk.mk (by kernel_rfl) ?_ | refine Eq'.mk ?_ | (refine AllN.mk fun i hi => ?_; cbv) | (refine AllC.mk fun c hc hcm => ?_; (try dsimp only at hc); cbv) | (refine AllS.mk fun r hr => ?_; (try simp only [Dat.ok, Dat.dec, Leaf.ok, Leaf.val, Z0, Z1, Z2, Z3, Z4, Z5, Z6, Z7, val_sl] at hr); cbv)
 · cbv
   repeat' first | (show Stp _; exfalso; first | omega | (exact h ‹_›) | (exact absurd ‹_› h) | (exact Bool.false_ne_true (h.symm.trans (show _ = true by assumption)))) | (refine Stp.mk ?_; cbv) | (refine Gen.mk fun r hr => ?_; (try simp only [Dat.ok, Dat.dec, Leaf.ok, Leaf.val, Z0, Z1, Z2, Z3, Z4, Z5, Z6, Z7, val_sl, val_nil] at hr); cbv) | exact trivial | rfl | refine Both.mk ?_ ?_ | (refine Imp.mk fun h => ?_; (try dsimp only at h); (try simp only [nc, Int.toNat_natCast, ne_eq, zz] at h); (try simp only [nc] at h)) | refine Ob.mk ?_ ?_ | refine Chk.mk (by kernel_rfl) ?_ | refine Eq'.mk ?_ | (refine AllN.mk fun i hi => ?_; cbv) | (refine AllC.mk fun c hc hcm => ?_; (try dsimp only at hc); cbv) | (refine AllS.mk fun r hr => ?_; (try simp only [Dat.ok, Dat.dec, Leaf.ok, Leaf.val, Z0, Z1, Z2, Z3, Z4, Z5, Z6, Z7, val_sl] at hr); cbv)
   all_goals ((try dsimp only at *); (try simp only [nc, Int.toNat_natCast, ne_eq, zz] at *); (try simp only [nc] at *))
   all_goals try rw [nc] at *
   all_goals try (have ho := okT_iff.1 (tk_get (show k < l.length by omega) r2); have hq := dem1_bd (tk_get (show k < l.length by omega) r2) r3 r4)
   all_goals try (have hd1 : (l.getD k Dat.d0).due ≤ n := by assumption
                  have he1 : dem1 (l.getD k Dat.d0) n = ((n - (l.getD k Dat.d0).due).tdiv (l.getD k Dat.d0).every + 1) * (l.getD k Dat.d0).long := if_pos hd1
                  rw [he1] at hq
                  have hq3 := hq.2.2 hd1)
   all_goals first
     | omega
     | (unfold InR; omega)
     | (refine ⟨by omega, ?_⟩; unfold InR; omega)
     | (have hk2 : k < l.length := by omega
        first
          | (refine ⟨⟨k + 1, s + ((n - (l.getD k Dat.d0).due).tdiv (l.getD k Dat.d0).every + 1) * (l.getD k Dat.d0).long, by omega, by omega, by omega, by rw [he, dem_drop _ hk2, he1]; omega⟩, ?_, ?_, rfl, by (try dsimp only); omega⟩
             · cbv
               repeat' first | (refine Stp.mk ?_; cbv) | (refine Gen.mk fun r hr => ?_; (try simp only [Dat.ok, Dat.dec, Leaf.ok, Leaf.val, Z0, Z1, Z2, Z3, Z4, Z5, Z6, Z7, val_sl, val_nil] at hr); cbv) | exact trivial | rfl | refine Both.mk ?_ ?_ | (refine Imp.mk fun h => ?_; (try dsimp only at h); (try simp only [nc, Int.toNat_natCast, ne_eq, zz] at h); (try simp only [nc] at h)) | refine Ob.mk ?_ ?_ | refine Chk.mk (by kernel_rfl) ?_ | refine Eq'.mk ?_ | (refine AllN.mk fun i hi => ?_; cbv) | (refine AllC.mk fun c hc hcm => ?_; (try dsimp only at hc); cbv) | (refine AllS.mk fun r hr => ?_; (try simp only [Dat.ok, Dat.dec, Leaf.ok, Leaf.val, Z0, Z1, Z2, Z3, Z4, Z5, Z6, Z7, val_sl] at hr); cbv)
             · cbv
               repeat' first | (refine Stp.mk ?_; cbv) | (refine Gen.mk fun r hr => ?_; (try simp only [Dat.ok, Dat.dec, Leaf.ok, Leaf.val, Z0, Z1, Z2, Z3, Z4, Z5, Z6, Z7, val_sl, val_nil] at hr); cbv) | exact trivial | rfl | refine Both.mk ?_ ?_ | (refine Imp.mk fun h => ?_; (try dsimp only at h); (try simp only [nc, Int.toNat_natCast, ne_eq, zz] at h); (try simp only [nc] at h)) | refine Ob.mk ?_ ?_ | refine Chk.mk (by kernel_rfl) ?_ | refine Eq'.mk ?_ | (refine AllN.mk fun i hi => ?_; cbv) | (refine AllC.mk fun c hc hcm => ?_; (try dsimp only at hc); cbv) | (refine AllS.mk fun r hr => ?_; (try simp only [Dat.ok, Dat.dec, Leaf.ok, Leaf.val, Z0, Z1, Z2, Z3, Z4, Z5, Z6, Z7, val_sl] at hr); cbv))
          | (have he1 : dem1 (l.getD k Dat.d0) n = 0 := if_neg (by omega)
             refine ⟨⟨k + 1, s, by omega, by omega, by omega, by rw [he, dem_drop _ hk2, he1]; omega⟩, ?_, ?_, rfl, by (try dsimp only); omega⟩
             · cbv
               repeat' first | (refine Stp.mk ?_; cbv) | (refine Gen.mk fun r hr => ?_; (try simp only [Dat.ok, Dat.dec, Leaf.ok, Leaf.val, Z0, Z1, Z2, Z3, Z4, Z5, Z6, Z7, val_sl, val_nil] at hr); cbv) | exact trivial | rfl | refine Both.mk ?_ ?_ | (refine Imp.mk fun h => ?_; (try dsimp only at h); (try simp only [nc, Int.toNat_natCast, ne_eq, zz] at h); (try simp only [nc] at h)) | refine Ob.mk ?_ ?_ | refine Chk.mk (by kernel_rfl) ?_ | refine Eq'.mk ?_ | (refine AllN.mk fun i hi => ?_; cbv) | (refine AllC.mk fun c hc hcm => ?_; (try dsimp only at hc); cbv) | (refine AllS.mk fun r hr => ?_; (try simp only [Dat.ok, Dat.dec, Leaf.ok, Leaf.val, Z0, Z1, Z2, Z3, Z4, Z5, Z6, Z7, val_sl] at hr); cbv)
             · cbv
               repeat' first | (refine Stp.mk ?_; cbv) | (refine Gen.mk fun r hr => ?_; (try simp only [Dat.ok, Dat.dec, Leaf.ok, Leaf.val, Z0, Z1, Z2, Z3, Z4, Z5, Z6, Z7, val_sl, val_nil] at hr); cbv) | exact trivial | rfl | refine Both.mk ?_ ?_ | (refine Imp.mk fun h => ?_; (try dsimp only at h); (try simp only [nc, Int.toNat_natCast, ne_eq, zz] at h); (try simp only [nc] at h)) | refine Ob.mk ?_ ?_ | refine Chk.mk (by kernel_rfl) ?_ | refine Eq'.mk ?_ | (refine AllN.mk fun i hi => ?_; cbv) | (refine AllC.mk fun c hc hcm => ?_; (try dsimp only at hc); cbv) | (refine AllS.mk fun r hr => ?_; (try simp only [Dat.ok, Dat.dec, Leaf.ok, Leaf.val, Z0, Z1, Z2, Z3, Z4, Z5, Z6, Z7, val_sl] at hr); cbv)))
     | (refine fin _ _ _ ?_
        rw [he, List.drop_eq_nil_of_le (by omega), demS, Int.add_zero])
     | fail
theorem dmd_ok : PcOk Tryz.prog 50 (detPC dmd_D) := det_okA fun A p r h hp0 => by
 unfold dmd_D at h
 split at h
 · rename_i l n
   cases h
   obtain ⟨g0, hp⟩ := hp0
   exact ⟨rfl, FnOk.pre (A' := [Leaf.av fun _ => (Leaf.val l : (List Task)), .i .i64 fun _ => n ()]) (dmd_vc (Leaf.val l) (n ()) hp) (.mk (Leaf.hle _ g0) (.mk (.mk (.mk rfl) (.mk rfl)) (trivial)))⟩
 · cases h

end Go.Proofs.YtnjngpjkhddnfaaGreatDoor
