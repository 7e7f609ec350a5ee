/- task.Fits, walked. -/
import Derived.Test.YtnjngpjkhddnfaaGreatDoorTask
set_option linter.all false
namespace Go.Proofs.YtnjngpjkhddnfaaGreatDoor
open Go Go.Abs

def comesF : Nat → Int → Int → Int → List Int
 | 0, _, _, _ => []
 | f + 1, n, e, b => if n < b then n :: comesF f (n + e) e b else []
def comesN (n e b : Int) : List Int := comesF (b - n).toNat n e b
theorem comesF_fuel : ∀ {f g : Nat} {n e b : Int}, 1 ≤ e → (b - n).toNat ≤ f → (b - n).toNat ≤ g → comesF f n e b = comesF g n e b
 | 0, 0, _, _, _, _, _, _ => rfl
 | 0, g + 1, n, e, b, _, h, _ => by rw [comesF, comesF, if_neg (by omega)]
 | f + 1, 0, n, e, b, _, _, h => by rw [comesF, comesF, if_neg (by omega)]
 | f + 1, g + 1, n, e, b, he, h1, h2 => by
   rw [comesF, comesF]
   split
   · rw [comesF_fuel he (show (b - (n + e)).toNat ≤ f by omega) (show (b - (n + e)).toNat ≤ g by omega)]
   · rfl
theorem comesN_lt {n e b : Int} (he : 1 ≤ e) (h : n < b) : comesN n e b = n :: comesN (n + e) e b := by
 obtain ⟨f, hf⟩ : ∃ f, (b - n).toNat = f + 1 := ⟨(b - n).toNat - 1, by omega⟩
 unfold comesN
 rw [hf, comesF, if_pos h, comesF_fuel he (show (b - (n + e)).toNat ≤ f by omega) (Nat.le_refl _)]
theorem comesN_ge {n e b : Int} (h : ¬ n < b) : comesN n e b = [] := by
 unfold comesN
 rw [show (b - n).toNat = 0 by omega, comesF]
def allsV (b : Int) : List Task → List Int
 | [] => []
 | t :: r => comesN t.due t.every b ++ allsV b r
theorem alls_drop {l : List Task} {k : Nat} (b : Int) (hk : k < l.length) : allsV b (l.drop k) = comesN (l.getD k Dat.d0).due (l.getD k Dat.d0).every b ++ allsV b (l.drop (k + 1)) := by
 rw [drop_cons Dat.d0 hk, allsV]
def duesV (l : List Task) (b : Int) : List Int := compactL (sortL (allsV b l))
structure DuX (l : List Task) (b : Int) where
 k : Nat
 out : List Int
 hk : k ≤ l.length
 hl : out.length ≤ k * 50001
 he : allsV b l = out ++ allsV b (l.drop k)
structure DvX (l : List Task) (b : Int) (k : Nat) where
 n : Int
 out : List Int
 n0 : 1 ≤ n
 n1 : n ≤ 70001
 hl : out.length + 1 ≤ k * 50001 + n.toNat
 hb : out.length + 1 ≤ k * 50001 + b.toNat ∨ out.length ≤ k * 50001
 he : allsV b l = out ++ (comesN n (l.getD k Dat.d0).every b ++ allsV b (l.drop (k + 1)))
def dues_R (r : Th ((List Int))) : AV := .own 0 fun _ => (r ()).length
def dues_H (r : Th ((List Int))) : Hp := [vecO 3 fun _ => (r ())]
def dues_P (l : (List Task)) (below : Int) : Prop := l.length ≤ 16 ∧ l.all okT = true ∧ 1 ≤ below ∧ below ≤ 50001
noncomputable def cDu : FuncId → Con := fun f => match f with
 | 70 => sortI_K
 | 71 => cpInt_K
 | _ => fun _ _ _ => Bad 1001
theorem cDu_ok : ConOk Tryz.prog cDu := fun f A H K h => by
 unfold cDu at h
 split at h
 · exact ⟨⟨Tryz.f70, Tryz.func70, by kernel_rfl, by kernel_rfl⟩, sortI_ok h⟩
 · exact ⟨⟨Tryz.f71, Tryz.func71, by kernel_rfl, by kernel_rfl⟩, cpInt_ok h⟩
 · cases h
set_option maxRecDepth 100000 in
set_option maxHeartbeats 4000000 in
theorem dues_vc (l : (List Task)) (below : Int) (hp : dues_P l below) : FnOk Tryz.prog 48 [Leaf.av fun _ => l, .i .i64 fun _ => below] [] (outA (dues_R fun _ => duesV l below) (dues_H fun _ => duesV l below)) := by
 refine fn_ok envOk zl cDu_ok noDraws_ok (keep := [0, 1, 4, 5, 7, 8, 9, 10, 11, 12, 19]) Tryz.func48 rfl ?_
 obtain ⟨r1, r2, r3, r4⟩ : l.length ≤ 16 ∧ l.all okT = true ∧ 1 ≤ below ∧ below ≤ 50001 := hp
 have fin : ∀ (n : Nat) (d : List Int) H kl, d = duesV l below → n = d.length → outA (dues_R fun _ => duesV l below) (dues_H fun _ => duesV l below) (.own 0 fun _ => n) (vecO 3 (fun _ => d) :: H) kl := fun n d H kl h hn => by
   subst hn h
   cbv
   repeat' first | (refine Stp.mk ?_; cbv) | (refine Gen.mk fun r hr => ?_; (try simp only [Dat.ok, Dat.dec, Leaf.ok, Leaf.val, Z0, Z1, Z2, Z3, Z4, Z5, Z6, Z7, val_sl, val_nil] at hr); cbv) | exact trivial | rfl | refine Both.mk ?_ ?_ | (refine Imp.mk fun h => ?_; (try dsimp only at h); (try simp only [nc, Int.toNat_natCast, ne_eq, zz] at h); (try simp only [nc] at h)) | refine Ob.mk ?_ ?_ | refine Chk.mk (by kernel_rfl) ?_ | refine Eq'.mk ?_ | (refine AllN.mk fun i hi => ?_; cbv) | (refine AllC.mk fun c hc hcm => ?_; (try dsimp only at hc); cbv) | (refine AllS.mk fun r hr => ?_; (try simp only [Dat.ok, Dat.dec, Leaf.ok, Leaf.val, Z0, Z1, Z2, Z3, Z4, Z5, Z6, Z7, val_sl] at hr); cbv)
 generalize outA (dues_R fun _ => duesV l below) (dues_H fun _ => duesV l below) = K at fin ⊢
 cbv
 refine LoopVC.frame [5, 7, 8, 11, 12, 19] (DuX l below) (fun x => [(11, .i .i64 fun _ => x.k), (5, .own 0 fun _ => x.out.length)]) (fun x => [(0, vecO 3 fun _ => x.out)]) [0] (fun x => l.length - x.k) ⟨0, [], Nat.zero_le _, Nat.le_refl _, by simp⟩ rfl (fun _ => rfl) ?_ ?_ fun ⟨k, out, hk, hl, he⟩ => ?_
 iterate 2
   · cbv
     repeat' first | (refine Stp.mk ?_; cbv) | (refine Gen.mk fun r hr => ?_; (try simp only [Dat.ok, Dat.dec, Leaf.ok, Leaf.val, Z0, Z1, Z2, Z3, Z4, Z5, Z6, Z7, val_sl, val_nil] at hr); cbv) | exact trivial | rfl | refine Both.mk ?_ ?_ | (refine Imp.mk fun h => ?_; (try dsimp only at h); (try simp only [nc, Int.toNat_natCast, ne_eq, zz] at h); (try simp only [nc] at h)) | refine Ob.mk ?_ ?_ | refine Chk.mk (by kernel_rfl) ?_ | refine Eq'.mk ?_ | (refine AllN.mk fun i hi => ?_; cbv) | (refine AllC.mk fun c hc hcm => ?_; (try dsimp only at hc); cbv) | (refine AllS.mk fun r hr => ?_; (try simp only [Dat.ok, Dat.dec, Leaf.ok, Leaf.val, Z0, Z1, Z2, Z3, Z4, Z5, Z6, Z7, val_sl] at hr); cbv)
 · cbv
   repeat' first | (show Stp _; exfalso; first | omega | (exact h ‹_›) | (exact absurd ‹_› h) | (exact Bool.false_ne_true (h.symm.trans (show _ = true by assumption)))) | (refine Stp.mk ?_; cbv) | (refine Gen.mk fun r hr => ?_; (try simp only [Dat.ok, Dat.dec, Leaf.ok, Leaf.val, Z0, Z1, Z2, Z3, Z4, Z5, Z6, Z7, val_sl, val_nil] at hr); cbv) | exact trivial | rfl | refine Both.mk ?_ ?_ | (refine Imp.mk fun h => ?_; (try dsimp only at h); (try simp only [nc, Int.toNat_natCast, ne_eq, zz] at h); (try simp only [nc] at h)) | refine Ob.mk ?_ ?_ | refine Chk.mk (by kernel_rfl) ?_ | refine Eq'.mk ?_ | (refine AllN.mk fun i hi => ?_; cbv) | (refine AllC.mk fun c hc hcm => ?_; (try dsimp only at hc); cbv) | (refine AllS.mk fun r hr => ?_; (try simp only [Dat.ok, Dat.dec, Leaf.ok, Leaf.val, Z0, Z1, Z2, Z3, Z4, Z5, Z6, Z7, val_sl] at hr); cbv)
   all_goals ((try dsimp only at *); (try simp only [nc, Int.toNat_natCast, ne_eq, zz] at *); (try simp only [nc] at *))
   all_goals try rw [nc] at *
   all_goals first
     | omega
     | (unfold InR; omega)
     | skip
   · have hk2 : k < l.length := by omega
     have ho := okT_iff.1 (tk_get hk2 r2)
     refine LoopVC.frame [5, 8, 19] (DvX l below k) (fun x => [(8, .i .i64 fun _ => x.n), (5, .own 0 fun _ => x.out.length)]) (fun x => [(0, vecO 3 fun _ => x.out)]) [0] (fun x => (below - x.n).toNat)
       ⟨(l.getD k Dat.d0).due, out, by omega, by omega, by omega, .inr hl, by rw [he, alls_drop _ hk2]⟩ rfl (fun _ => rfl) ?_ ?_ fun ⟨n, out', n0, n1, hl', hb, he'⟩ => ?_
     iterate 2
       · cbv
         repeat' first | (refine Stp.mk ?_; cbv) | (refine Gen.mk fun r hr => ?_; (try simp only [Dat.ok, Dat.dec, Leaf.ok, Leaf.val, Z0, Z1, Z2, Z3, Z4, Z5, Z6, Z7, val_sl, val_nil] at hr); cbv) | exact trivial | rfl | refine Both.mk ?_ ?_ | (refine Imp.mk fun h => ?_; (try dsimp only at h); (try simp only [nc, Int.toNat_natCast, ne_eq, zz] at h); (try simp only [nc] at h)) | refine Ob.mk ?_ ?_ | refine Chk.mk (by kernel_rfl) ?_ | refine Eq'.mk ?_ | (refine AllN.mk fun i hi => ?_; cbv) | (refine AllC.mk fun c hc hcm => ?_; (try dsimp only at hc); cbv) | (refine AllS.mk fun r hr => ?_; (try simp only [Dat.ok, Dat.dec, Leaf.ok, Leaf.val, Z0, Z1, Z2, Z3, Z4, Z5, Z6, Z7, val_sl] at hr); cbv)
     · cbv
       repeat' first | (show Stp _; exfalso; first | omega | (exact h ‹_›) | (exact absurd ‹_› h) | (exact Bool.false_ne_true (h.symm.trans (show _ = true by assumption)))) | (refine Stp.mk ?_; cbv) | (refine Gen.mk fun r hr => ?_; (try simp only [Dat.ok, Dat.dec, Leaf.ok, Leaf.val, Z0, Z1, Z2, Z3, Z4, Z5, Z6, Z7, val_sl, val_nil] at hr); cbv) | exact trivial | rfl | refine Both.mk ?_ ?_ | (refine Imp.mk fun h => ?_; (try dsimp only at h); (try simp only [nc, Int.toNat_natCast, ne_eq, zz] at h); (try simp only [nc] at h)) | refine Ob.mk ?_ ?_ | refine Chk.mk (by kernel_rfl) ?_ | refine Eq'.mk ?_ | (refine AllN.mk fun i hi => ?_; cbv) | (refine AllC.mk fun c hc hcm => ?_; (try dsimp only at hc); cbv) | (refine AllS.mk fun r hr => ?_; (try simp only [Dat.ok, Dat.dec, Leaf.ok, Leaf.val, Z0, Z1, Z2, Z3, Z4, Z5, Z6, Z7, val_sl] at hr); cbv)
       all_goals ((try dsimp only at *); (try simp only [nc, Int.toNat_natCast, ne_eq, zz] at *); (try simp only [nc] at *))
       all_goals try rw [nc] at *
       all_goals first
         | omega
         | (unfold InR; omega)
         | exact ⟨Nat.le_refl _, trivial, by omega, by omega⟩
         | skip
       · refine ⟨⟨n + (l.getD k Dat.d0).every, out' ++ [n], by omega, by omega, by rw [List.length_append, List.length_singleton]; omega, by rw [List.length_append, List.length_singleton]; omega, by rw [he', comesN_lt ho.1 (by omega)]; simp⟩, ?_, ?_, rfl, by (try dsimp only); omega⟩
         · cbv
           repeat' first | (refine Stp.mk ?_; cbv) | (refine Gen.mk fun r hr => ?_; (try simp only [Dat.ok, Dat.dec, Leaf.ok, Leaf.val, Z0, Z1, Z2, Z3, Z4, Z5, Z6, Z7, val_sl, val_nil] at hr); cbv) | exact trivial | rfl | refine Both.mk ?_ ?_ | (refine Imp.mk fun h => ?_; (try dsimp only at h); (try simp only [nc, Int.toNat_natCast, ne_eq, zz] at h); (try simp only [nc] at h)) | refine Ob.mk ?_ ?_ | refine Chk.mk (by kernel_rfl) ?_ | refine Eq'.mk ?_ | (refine AllN.mk fun i hi => ?_; cbv) | (refine AllC.mk fun c hc hcm => ?_; (try dsimp only at hc); cbv) | (refine AllS.mk fun r hr => ?_; (try simp only [Dat.ok, Dat.dec, Leaf.ok, Leaf.val, Z0, Z1, Z2, Z3, Z4, Z5, Z6, Z7, val_sl] at hr); cbv)
           all_goals simp
         · cbv
           repeat' first | (refine Stp.mk ?_; cbv) | (refine Gen.mk fun r hr => ?_; (try simp only [Dat.ok, Dat.dec, Leaf.ok, Leaf.val, Z0, Z1, Z2, Z3, Z4, Z5, Z6, Z7, val_sl, val_nil] at hr); cbv) | exact trivial | rfl | refine Both.mk ?_ ?_ | (refine Imp.mk fun h => ?_; (try dsimp only at h); (try simp only [nc, Int.toNat_natCast, ne_eq, zz] at h); (try simp only [nc] at h)) | refine Ob.mk ?_ ?_ | refine Chk.mk (by kernel_rfl) ?_ | refine Eq'.mk ?_ | (refine AllN.mk fun i hi => ?_; cbv) | (refine AllC.mk fun c hc hcm => ?_; (try dsimp only at hc); cbv) | (refine AllS.mk fun r hr => ?_; (try simp only [Dat.ok, Dat.dec, Leaf.ok, Leaf.val, Z0, Z1, Z2, Z3, Z4, Z5, Z6, Z7, val_sl] at hr); cbv)
           all_goals ((try dsimp only at *); (try simp only [nc, Int.toNat_natCast, ne_eq, zz] at *); (try simp only [nc] at *))
           all_goals first
             | (simp; done)
             | exact (gd_snoc out' _ Dat.d0 i (by assumption)).symm
             | fail
       · refine ⟨⟨k + 1, out', by omega, by omega, by rw [he', comesN_ge (by omega)]; simp⟩, ?_, ?_, rfl, by (try dsimp only); omega⟩
         · cbv
           repeat' first | (refine Stp.mk ?_; cbv) | (refine Gen.mk fun r hr => ?_; (try simp only [Dat.ok, Dat.dec, Leaf.ok, Leaf.val, Z0, Z1, Z2, Z3, Z4, Z5, Z6, Z7, val_sl, val_nil] at hr); cbv) | exact trivial | rfl | refine Both.mk ?_ ?_ | (refine Imp.mk fun h => ?_; (try dsimp only at h); (try simp only [nc, Int.toNat_natCast, ne_eq, zz] at h); (try simp only [nc] at h)) | refine Ob.mk ?_ ?_ | refine Chk.mk (by kernel_rfl) ?_ | refine Eq'.mk ?_ | (refine AllN.mk fun i hi => ?_; cbv) | (refine AllC.mk fun c hc hcm => ?_; (try dsimp only at hc); cbv) | (refine AllS.mk fun r hr => ?_; (try simp only [Dat.ok, Dat.dec, Leaf.ok, Leaf.val, Z0, Z1, Z2, Z3, Z4, Z5, Z6, Z7, val_sl] at hr); cbv)
         · cbv
           repeat' first | (refine Stp.mk ?_; cbv) | (refine Gen.mk fun r hr => ?_; (try simp only [Dat.ok, Dat.dec, Leaf.ok, Leaf.val, Z0, Z1, Z2, Z3, Z4, Z5, Z6, Z7, val_sl, val_nil] at hr); cbv) | exact trivial | rfl | refine Both.mk ?_ ?_ | (refine Imp.mk fun h => ?_; (try dsimp only at h); (try simp only [nc, Int.toNat_natCast, ne_eq, zz] at h); (try simp only [nc] at h)) | refine Ob.mk ?_ ?_ | refine Chk.mk (by kernel_rfl) ?_ | refine Eq'.mk ?_ | (refine AllN.mk fun i hi => ?_; cbv) | (refine AllC.mk fun c hc hcm => ?_; (try dsimp only at hc); cbv) | (refine AllS.mk fun r hr => ?_; (try simp only [Dat.ok, Dat.dec, Leaf.ok, Leaf.val, Z0, Z1, Z2, Z3, Z4, Z5, Z6, Z7, val_sl] at hr); cbv)
           all_goals ((try dsimp only at *); (try simp only [nc, Int.toNat_natCast, ne_eq, zz] at *); (try simp only [nc] at *))
   · exact ⟨rfl, trivial, fun i _ => Dat.hok _, by omega⟩
   · subst hr
     have hs : (sortL out).length = out.length := List.length_mergeSort _
     have ev := val_len (α := Int) (l := sortL out) (n := out.length) 1 hs.symm
     exact ⟨rfl, hs.symm, fun i _ => Dat.hok _, by show (slV _ : List Int).length ≤ _; rw [ev, hs]; omega⟩
   · have hs : (sortL out).length = out.length := List.length_mergeSort _
     rename List Int => r
     have hr2 := hr
     rename (_ = sortL out) => hq
     rw [hq] at hr2
     have ev := val_len (α := Int) (l := sortL out) (n := out.length) 1 hs.symm
     have hr3 : r = sortL out := hr2.trans ev
     have hall : allsV below l = out := by rw [he, List.drop_eq_nil_of_le (by omega)]; simp [allsV]
     refine fin _ _ _ _ ?_ rfl
     show compactL r = duesV l below
     rw [hr3, duesV, hall]

end Go.Proofs.YtnjngpjkhddnfaaGreatDoor
