/- The program's functions, walked: Of. -/
import Derived.Test.YtnjngpjkhddnfaaGreatDoorOfP
set_option linter.all false
namespace Go.Proofs.YtnjngpjkhddnfaaGreatDoor
open Go Go.Abs
def ofP_R (r : Th (Set × Int)) : AV := .tup [.agg [.i .i64 fun _ => (r ()).1.size, .own 0 fun _ => (r ()).1.spans.length], .i .i64 fun _ => (r ()).2]
def ofP_H (r : Th (Set × Int)) : Hp := [vecO 99 fun _ => (r ()).1.spans]
def ofP_P (n : Int) (l : (List Span)) : Prop := l.length ≤ 1099511627776
def ofP_C : PC := fun A K => match A with
 | [.i .i64 n, l] => Ob (fun _ => Leaf.ok (List Span) l ∧ ofP_P (n ()) (Leaf.val l)) (Gen (α := Set × Int) (fun _ => ofV (n ()) (Leaf.val l)) fun r => K (ofP_R fun _ => r) (ofP_H fun _ => r))
 | _ => Bad 1002
noncomputable def cOf : FuncId → Con := fun f => match f with
 | 64 => pureCon (detPC sizeC_D)
 | 65 => pureCon clSp_C
 | 66 => sortSpan_K
 | _ => fun _ _ _ => Bad 1001
theorem cOf_ok : ConOk Tryz.prog cOf := fun f A H K h => by
 unfold cOf at h
 split at h
 · exact ⟨⟨Tryz.f64, Tryz.func64, by kernel_rfl, by kernel_rfl⟩, pureCon_ok sizeC_ok h⟩
 · exact ⟨⟨Tryz.f65, Tryz.func65, by kernel_rfl, by kernel_rfl⟩, pureCon_ok clSp_ok h⟩
 · exact ⟨⟨Tryz.f66, Tryz.func66, by kernel_rfl, by kernel_rfl⟩, sortSpan_ok h⟩
 · cases h
def dOf : FuncId → Option Dt := fun f => match f with
 | _ => none
theorem dOf_ok : DetOk Tryz.prog dOf := fun f d h => by
 unfold dOf at h
 split at h
 · cases h
structure OfX (n : Int) (d : List Span) where
 k : Nat
 out : List Span
 hk : k ≤ d.length
 ho : out.length ≤ k
 hr : ofR n [] d = ofR n out (d.drop k)
theorem gd_set (l : List Span) (k i : Nat) (v : Span) (hk : k < l.length) : (l.set k v).getD i Dat.d0 = bif decide (i = k) then v else l.getD i Dat.d0 := by
 rw [List.getD_eq_getElem?_getD, List.getElem?_set, List.getD_eq_getElem?_getD]
 by_cases h : i = k
 · subst h; simp [hk]
 · simp [h, Ne.symm h]
theorem sizeB_t {n : Int} : sizeB n = true ↔ ¬ (n < 1 ∨ 1000000 < n) := by unfold sizeB; simp
theorem sizeB_f {n : Int} : sizeB n = false ↔ (n < 1 ∨ 1000000 < n) := by unfold sizeB; simp; omega
set_option maxRecDepth 100000 in
set_option maxHeartbeats 4000000 in
theorem ofP_vc (n : Int) (l : (List Span)) (hp : ofP_P n l) : FnOk Tryz.prog 44 [.i .i64 fun _ => n, Leaf.av fun _ => l] [] (outA (ofP_R fun _ => ofV n l) (ofP_H fun _ => ofV n l)) := by
 refine fn_ok envOk zl cOf_ok (draws_ok envOk zl dOf_ok mixed) (keep := [0, 1, 4, 5, 6, 8, 9, 12, 16, 24, 25, 26, 27, 45, 57, 63]) Tryz.func44 rfl ?_
 have hp' : l.length ≤ 1099511627776 := hp
 generalize hK : outA (ofP_R fun _ => ofV n l) (ofP_H fun _ => ofV n l) = K
 cbv
 repeat' first | (refine Stp.mk ?_; cbv) | (refine Gen.mk fun r hr => ?_; (try simp only [Dat.ok, Dat.dec, Leaf.ok, Leaf.val, Z0, Z1, Z2, Z3, Z4, Z5, Z6, Z7, val_sl, val_nil] at hr); cbv) | exact trivial | rfl | refine Both.mk ?_ ?_ | (refine Imp.mk fun h => ?_; (try dsimp only at h); (try simp only [nc, Int.toNat_natCast, ne_eq, zz] at h); (try simp only [nc] at h)) | refine Ob.mk ?_ ?_ | refine Chk.mk (by kernel_rfl) ?_ | refine Eq'.mk ?_ | (refine AllN.mk fun i hi => ?_; cbv) | (refine AllC.mk fun c hc hcm => ?_; (try dsimp only at hc); cbv) | (refine AllS.mk fun r hr => ?_; (try simp only [Dat.ok, Dat.dec, Leaf.ok, Leaf.val, Z0, Z1, Z2, Z3, Z4, Z5, Z6, Z7, val_sl] at hr); cbv)
 all_goals ((try dsimp only at *); (try simp only [nc, Int.toNat_natCast, ne_eq, zz] at *); (try simp only [nc] at *))
 all_goals try rw [sizeB_t] at *
 all_goals try rw [sizeB_f] at *
 all_goals first
   | exact ⟨⟨rfl, fun i _ => Dat.hok _⟩, by simp only [Dat.ok, Dat.dec, Leaf.ok, Leaf.val, Z0, Z1, Z2, Z3, Z4, Z5, Z6, Z7, val_sl]; exact hp'⟩
   | exact ⟨rfl, trivial, fun i _ => Dat.hok _, by have : r.length = l.length := by { first | (subst hr; rfl) | (rw [hr]) }; omega⟩
   | (rw [← hK, ofV_arg (by assumption)]
      cbv
      repeat' first | (refine Stp.mk ?_; cbv) | (refine Gen.mk fun r hr => ?_; (try simp only [Dat.ok, Dat.dec, Leaf.ok, Leaf.val, Z0, Z1, Z2, Z3, Z4, Z5, Z6, Z7, val_sl, val_nil] at hr); cbv) | exact trivial | rfl | refine Both.mk ?_ ?_ | (refine Imp.mk fun h => ?_; (try dsimp only at h); (try simp only [nc, Int.toNat_natCast, ne_eq, zz] at h); (try simp only [nc] at h)) | refine Ob.mk ?_ ?_ | refine Chk.mk (by kernel_rfl) ?_ | refine Eq'.mk ?_ | (refine AllN.mk fun i hi => ?_; cbv) | (refine AllC.mk fun c hc hcm => ?_; (try dsimp only at hc); cbv) | (refine AllS.mk fun r hr => ?_; (try simp only [Dat.ok, Dat.dec, Leaf.ok, Leaf.val, Z0, Z1, Z2, Z3, Z4, Z5, Z6, Z7, val_sl] at hr); cbv)
      (try all_goals (exact absurd hi (Nat.not_lt_zero _)))
      done)
   | (rw [← hK, ofV_large (by assumption) (by omega)]
      cbv
      repeat' first | (refine Stp.mk ?_; cbv) | (refine Gen.mk fun r hr => ?_; (try simp only [Dat.ok, Dat.dec, Leaf.ok, Leaf.val, Z0, Z1, Z2, Z3, Z4, Z5, Z6, Z7, val_sl, val_nil] at hr); cbv) | exact trivial | rfl | refine Both.mk ?_ ?_ | (refine Imp.mk fun h => ?_; (try dsimp only at h); (try simp only [nc, Int.toNat_natCast, ne_eq, zz] at h); (try simp only [nc] at h)) | refine Ob.mk ?_ ?_ | refine Chk.mk (by kernel_rfl) ?_ | refine Eq'.mk ?_ | (refine AllN.mk fun i hi => ?_; cbv) | (refine AllC.mk fun c hc hcm => ?_; (try dsimp only at hc); cbv) | (refine AllS.mk fun r hr => ?_; (try simp only [Dat.ok, Dat.dec, Leaf.ok, Leaf.val, Z0, Z1, Z2, Z3, Z4, Z5, Z6, Z7, val_sl] at hr); cbv)
      (try all_goals (exact absurd hi (Nat.not_lt_zero _)))
      done)
   | skip
 subst_vars
 rename_i hn l
 have hd := hr
 generalize r = d at *
 clear hr
 have hdl : d.length = l.length := hd.1.length_eq
 have hN : ofN n l = ofR n [] d := (ofN_of hd).symm
 generalize hK : outA (ofP_R fun _ => ofV n l) (ofP_H fun _ => ofV n l) = K
 refine LoopVC.frame [5, 8, 9, 26, 27, 45, 57, 63] (OfX n d) (fun x => [(26, .i .i64 fun _ => x.k), (5, .i .i64 fun _ => 0)]) (fun x => [(2, .blk [.i .i64 fun _ => n, .own 3 fun _ => x.out.length]), (3, vecO 99 fun _ => x.out)]) [3] (fun x => d.length - x.k)
     ⟨0, [], Nat.zero_le _, Nat.zero_le _, by simp⟩ rfl (fun _ => rfl) ?_ ?_ fun ⟨k, out, hk, ho, hr⟩ => ?_
 · cbv
   repeat' first | (refine Stp.mk ?_; cbv) | (refine Gen.mk fun r hr => ?_; (try simp only [Dat.ok, Dat.dec, Leaf.ok, Leaf.val, Z0, Z1, Z2, Z3, Z4, Z5, Z6, Z7, val_sl, val_nil] at hr); cbv) | exact trivial | rfl | refine Both.mk ?_ ?_ | (refine Imp.mk fun h => ?_; (try dsimp only at h); (try simp only [nc, Int.toNat_natCast, ne_eq, zz] at h); (try simp only [nc] at h)) | refine Ob.mk ?_ ?_ | refine Chk.mk (by kernel_rfl) ?_ | refine Eq'.mk ?_ | (refine AllN.mk fun i hi => ?_; cbv) | (refine AllC.mk fun c hc hcm => ?_; (try dsimp only at hc); cbv) | (refine AllS.mk fun r hr => ?_; (try simp only [Dat.ok, Dat.dec, Leaf.ok, Leaf.val, Z0, Z1, Z2, Z3, Z4, Z5, Z6, Z7, val_sl] at hr); cbv)
 · cbv
   repeat' first | (refine Stp.mk ?_; cbv) | (refine Gen.mk fun r hr => ?_; (try simp only [Dat.ok, Dat.dec, Leaf.ok, Leaf.val, Z0, Z1, Z2, Z3, Z4, Z5, Z6, Z7, val_sl, val_nil] at hr); cbv) | exact trivial | rfl | refine Both.mk ?_ ?_ | (refine Imp.mk fun h => ?_; (try dsimp only at h); (try simp only [nc, Int.toNat_natCast, ne_eq, zz] at h); (try simp only [nc] at h)) | refine Ob.mk ?_ ?_ | refine Chk.mk (by kernel_rfl) ?_ | refine Eq'.mk ?_ | (refine AllN.mk fun i hi => ?_; cbv) | (refine AllC.mk fun c hc hcm => ?_; (try dsimp only at hc); cbv) | (refine AllS.mk fun r hr => ?_; (try simp only [Dat.ok, Dat.dec, Leaf.ok, Leaf.val, Z0, Z1, Z2, Z3, Z4, Z5, Z6, Z7, val_sl] at hr); cbv)
   all_goals ((try dsimp only at *); (try simp only [nc, Int.toNat_natCast, ne_eq, zz] at *); (try simp only [nc] at *))
   all_goals trace_state
 have hx : k < d.length → ofR n [] d = if badS n (d.getD k Dat.d0) then none else ofR n (addS out (d.getD k Dat.d0)) (d.drop (k + 1)) := fun hk' => by rw [hr, drop_cons Dat.d0 hk', ofR]
 · cbv
   repeat' first | (refine Stp.mk ?_; cbv) | (refine Gen.mk fun r hr => ?_; (try simp only [Dat.ok, Dat.dec, Leaf.ok, Leaf.val, Z0, Z1, Z2, Z3, Z4, Z5, Z6, Z7, val_sl, val_nil] at hr); cbv) | exact trivial | rfl | refine Both.mk ?_ ?_ | (refine Imp.mk fun h => ?_; (try dsimp only at h); (try simp only [nc, Int.toNat_natCast, ne_eq, zz] at h); (try simp only [nc] at h)) | refine Ob.mk ?_ ?_ | refine Chk.mk (by kernel_rfl) ?_ | refine Eq'.mk ?_ | (refine AllN.mk fun i hi => ?_; cbv) | (refine AllC.mk fun c hc hcm => ?_; (try dsimp only at hc); cbv) | (refine AllS.mk fun r hr => ?_; (try simp only [Dat.ok, Dat.dec, Leaf.ok, Leaf.val, Z0, Z1, Z2, Z3, Z4, Z5, Z6, Z7, val_sl] at hr); cbv)
   all_goals ((try dsimp only at *); (try simp only [nc, Int.toNat_natCast, ne_eq, zz] at *); (try simp only [nc] at *))
   all_goals try rw [show out.getD ((out.length : Int) - 1).toNat Dat.d0 = lastG out by unfold lastG; congr 1; omega] at h
   all_goals first
     | omega
     | (unfold InR; omega)
     | (exfalso; omega)
     | exact ⟨Nat.le_refl _, Nat.le_refl _, by omega, by omega⟩
     | (rw [← hK, ofV_none hn (by omega) (by rw [hN, hx (by omega), if_pos (by unfold badS; omega)])]
        cbv
        repeat' first | (refine Stp.mk ?_; cbv) | (refine Gen.mk fun r hr => ?_; (try simp only [Dat.ok, Dat.dec, Leaf.ok, Leaf.val, Z0, Z1, Z2, Z3, Z4, Z5, Z6, Z7, val_sl, val_nil] at hr); cbv) | exact trivial | rfl | refine Both.mk ?_ ?_ | (refine Imp.mk fun h => ?_; (try dsimp only at h); (try simp only [nc, Int.toNat_natCast, ne_eq, zz] at h); (try simp only [nc] at h)) | refine Ob.mk ?_ ?_ | refine Chk.mk (by kernel_rfl) ?_ | refine Eq'.mk ?_ | (refine AllN.mk fun i hi => ?_; cbv) | (refine AllC.mk fun c hc hcm => ?_; (try dsimp only at hc); cbv) | (refine AllS.mk fun r hr => ?_; (try simp only [Dat.ok, Dat.dec, Leaf.ok, Leaf.val, Z0, Z1, Z2, Z3, Z4, Z5, Z6, Z7, val_sl] at hr); cbv)
        (try all_goals exact absurd hi (Nat.not_lt_zero _))
        done)
     | (rw [← hK, ofV_some hn (by omega) (show ofN n l = some out by rw [hN, hr, drop_nil (by omega)]; rfl)]
        cbv
        repeat' first | (refine Stp.mk ?_; cbv) | (refine Gen.mk fun r hr => ?_; (try simp only [Dat.ok, Dat.dec, Leaf.ok, Leaf.val, Z0, Z1, Z2, Z3, Z4, Z5, Z6, Z7, val_sl, val_nil] at hr); cbv) | exact trivial | rfl | refine Both.mk ?_ ?_ | (refine Imp.mk fun h => ?_; (try dsimp only at h); (try simp only [nc, Int.toNat_natCast, ne_eq, zz] at h); (try simp only [nc] at h)) | refine Ob.mk ?_ ?_ | refine Chk.mk (by kernel_rfl) ?_ | refine Eq'.mk ?_ | (refine AllN.mk fun i hi => ?_; cbv) | (refine AllC.mk fun c hc hcm => ?_; (try dsimp only at hc); cbv) | (refine AllS.mk fun r hr => ?_; (try simp only [Dat.ok, Dat.dec, Leaf.ok, Leaf.val, Z0, Z1, Z2, Z3, Z4, Z5, Z6, Z7, val_sl] at hr); cbv)
        done)
     | (refine ⟨⟨k + 1, out, by omega, by omega, ?_⟩, ?_, ?_, rfl, by (try dsimp only); omega⟩
        · rw [hx (by omega), if_neg (by unfold badS; omega), addS, if_pos (by assumption)]
        · cbv
          repeat' first | (refine Stp.mk ?_; cbv) | (refine Gen.mk fun r hr => ?_; (try simp only [Dat.ok, Dat.dec, Leaf.ok, Leaf.val, Z0, Z1, Z2, Z3, Z4, Z5, Z6, Z7, val_sl, val_nil] at hr); cbv) | exact trivial | rfl | refine Both.mk ?_ ?_ | (refine Imp.mk fun h => ?_; (try dsimp only at h); (try simp only [nc, Int.toNat_natCast, ne_eq, zz] at h); (try simp only [nc] at h)) | refine Ob.mk ?_ ?_ | refine Chk.mk (by kernel_rfl) ?_ | refine Eq'.mk ?_ | (refine AllN.mk fun i hi => ?_; cbv) | (refine AllC.mk fun c hc hcm => ?_; (try dsimp only at hc); cbv) | (refine AllS.mk fun r hr => ?_; (try simp only [Dat.ok, Dat.dec, Leaf.ok, Leaf.val, Z0, Z1, Z2, Z3, Z4, Z5, Z6, Z7, val_sl] at hr); cbv)
        · cbv
          repeat' first | (refine Stp.mk ?_; cbv) | (refine Gen.mk fun r hr => ?_; (try simp only [Dat.ok, Dat.dec, Leaf.ok, Leaf.val, Z0, Z1, Z2, Z3, Z4, Z5, Z6, Z7, val_sl, val_nil] at hr); cbv) | exact trivial | rfl | refine Both.mk ?_ ?_ | (refine Imp.mk fun h => ?_; (try dsimp only at h); (try simp only [nc, Int.toNat_natCast, ne_eq, zz] at h); (try simp only [nc] at h)) | refine Ob.mk ?_ ?_ | refine Chk.mk (by kernel_rfl) ?_ | refine Eq'.mk ?_ | (refine AllN.mk fun i hi => ?_; cbv) | (refine AllC.mk fun c hc hcm => ?_; (try dsimp only at hc); cbv) | (refine AllS.mk fun r hr => ?_; (try simp only [Dat.ok, Dat.dec, Leaf.ok, Leaf.val, Z0, Z1, Z2, Z3, Z4, Z5, Z6, Z7, val_sl] at hr); cbv))
     | (by_cases hc : 0 < out.length ∧ (d.getD k Dat.d0).frm ≤ (lastG out).to
        · first
            | (exfalso; omega)
            | (have e0 : ((out.length : Int) - 1).toNat = out.length - 1 := by omega
               refine ⟨⟨k + 1, out.set (out.length - 1) ⟨(lastG out).frm, if (d.getD k Dat.d0).to > (lastG out).to then (d.getD k Dat.d0).to else (lastG out).to⟩, by omega, by rw [List.length_set]; omega, ?_⟩, ?_, ?_, rfl, by (try dsimp only); omega⟩
               · rw [hx (by omega), if_neg (by unfold badS; omega), addS, if_neg (by assumption), if_pos hc]
               · cbv
                 repeat' first | (refine Stp.mk ?_; cbv) | (refine Gen.mk fun r hr => ?_; (try simp only [Dat.ok, Dat.dec, Leaf.ok, Leaf.val, Z0, Z1, Z2, Z3, Z4, Z5, Z6, Z7, val_sl, val_nil] at hr); cbv) | exact trivial | rfl | refine Both.mk ?_ ?_ | (refine Imp.mk fun h => ?_; (try dsimp only at h); (try simp only [nc, Int.toNat_natCast, ne_eq, zz] at h); (try simp only [nc] at h)) | refine Ob.mk ?_ ?_ | refine Chk.mk (by kernel_rfl) ?_ | refine Eq'.mk ?_ | (refine AllN.mk fun i hi => ?_; cbv) | (refine AllC.mk fun c hc hcm => ?_; (try dsimp only at hc); cbv) | (refine AllS.mk fun r hr => ?_; (try simp only [Dat.ok, Dat.dec, Leaf.ok, Leaf.val, Z0, Z1, Z2, Z3, Z4, Z5, Z6, Z7, val_sl] at hr); cbv)
                 all_goals simp
               · cbv
                 repeat' first | (refine Stp.mk ?_; cbv) | (refine Gen.mk fun r hr => ?_; (try simp only [Dat.ok, Dat.dec, Leaf.ok, Leaf.val, Z0, Z1, Z2, Z3, Z4, Z5, Z6, Z7, val_sl, val_nil] at hr); cbv) | exact trivial | rfl | refine Both.mk ?_ ?_ | (refine Imp.mk fun h => ?_; (try dsimp only at h); (try simp only [nc, Int.toNat_natCast, ne_eq, zz] at h); (try simp only [nc] at h)) | refine Ob.mk ?_ ?_ | refine Chk.mk (by kernel_rfl) ?_ | refine Eq'.mk ?_ | (refine AllN.mk fun i hi => ?_; cbv) | (refine AllC.mk fun c hc hcm => ?_; (try dsimp only at hc); cbv) | (refine AllS.mk fun r hr => ?_; (try simp only [Dat.ok, Dat.dec, Leaf.ok, Leaf.val, Z0, Z1, Z2, Z3, Z4, Z5, Z6, Z7, val_sl] at hr); cbv)
                 all_goals ((try dsimp only at *); (try simp only [nc, Int.toNat_natCast, ne_eq, zz] at *); (try simp only [nc] at *))
                 all_goals first
                   | (simp; done)
                   | (rw [e0, gd_set _ _ _ _ (by omega)]
                      by_cases hi2 : i = out.length - 1
                      · subst hi2; simp [lastG]
                      · simp [hi2])
                   | fail)
        · first
            | (exfalso; omega)
            | (refine ⟨⟨k + 1, out ++ [d.getD k Dat.d0], by omega, by rw [List.length_append]; exact Nat.add_le_add_right ho 1, ?_⟩, ?_, ?_, rfl, by (try dsimp only); omega⟩
               · rw [hx (by omega), if_neg (by unfold badS; omega), addS, if_neg (by assumption), if_neg hc]
               · cbv
                 repeat' first | (refine Stp.mk ?_; cbv) | (refine Gen.mk fun r hr => ?_; (try simp only [Dat.ok, Dat.dec, Leaf.ok, Leaf.val, Z0, Z1, Z2, Z3, Z4, Z5, Z6, Z7, val_sl, val_nil] at hr); cbv) | exact trivial | rfl | refine Both.mk ?_ ?_ | (refine Imp.mk fun h => ?_; (try dsimp only at h); (try simp only [nc, Int.toNat_natCast, ne_eq, zz] at h); (try simp only [nc] at h)) | refine Ob.mk ?_ ?_ | refine Chk.mk (by kernel_rfl) ?_ | refine Eq'.mk ?_ | (refine AllN.mk fun i hi => ?_; cbv) | (refine AllC.mk fun c hc hcm => ?_; (try dsimp only at hc); cbv) | (refine AllS.mk fun r hr => ?_; (try simp only [Dat.ok, Dat.dec, Leaf.ok, Leaf.val, Z0, Z1, Z2, Z3, Z4, Z5, Z6, Z7, val_sl] at hr); cbv)
                 all_goals simp
               · cbv
                 repeat' first | (refine Stp.mk ?_; cbv) | (refine Gen.mk fun r hr => ?_; (try simp only [Dat.ok, Dat.dec, Leaf.ok, Leaf.val, Z0, Z1, Z2, Z3, Z4, Z5, Z6, Z7, val_sl, val_nil] at hr); cbv) | exact trivial | rfl | refine Both.mk ?_ ?_ | (refine Imp.mk fun h => ?_; (try dsimp only at h); (try simp only [nc, Int.toNat_natCast, ne_eq, zz] at h); (try simp only [nc] at h)) | refine Ob.mk ?_ ?_ | refine Chk.mk (by kernel_rfl) ?_ | refine Eq'.mk ?_ | (refine AllN.mk fun i hi => ?_; cbv) | (refine AllC.mk fun c hc hcm => ?_; (try dsimp only at hc); cbv) | (refine AllS.mk fun r hr => ?_; (try simp only [Dat.ok, Dat.dec, Leaf.ok, Leaf.val, Z0, Z1, Z2, Z3, Z4, Z5, Z6, Z7, val_sl] at hr); cbv)
                 all_goals ((try dsimp only at *); (try simp only [nc, Int.toNat_natCast, ne_eq, zz] at *); (try simp only [nc] at *))
                 all_goals first
                   | (rw [gd_snoc _ _ _ _ hi]; cases decide (i < out.length) <;> rfl)
                   | (simp; done)
                   | fail))
     | fail
theorem ofP_ok : PcOk Tryz.prog 44 (ofP_C) := fun A K h => by
 unfold ofP_C at h
 split at h
 · rename_i n l
   cases h with
   | mk h1 h2 =>
     obtain ⟨g0, hp⟩ := h1
     refine FnOk.pre ?_ (A' := [.i .i64 fun _ => n (), Leaf.av fun _ => (Leaf.val l : (List Span))]) (.mk (.mk (.mk rfl) (.mk rfl)) (.mk (Leaf.hle _ g0) (trivial)))
     exact FnOk.out (K := fun r H _ => K r H) (ofP_vc (n ()) (Leaf.val l) hp) rfl h2.out
 · cases h

end Go.Proofs.YtnjngpjkhddnfaaGreatDoor
