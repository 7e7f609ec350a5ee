/- table.Times, walked. -/
import Derived.Test.YtnjngpjkhddnfaaGreatDoorTimesP
import Derived.Test.YtnjngpjkhddnfaaGreatDoorOf
set_option linter.all false
namespace Go.Proofs.YtnjngpjkhddnfaaGreatDoor
open Go Go.Abs

def times_R (r : Th (Set × Int)) : AV := .tup [.agg [.i .i64 fun _ => (r ()).1.size, .own 0 fun _ => (r ()).1.spans.length], .i .i64 fun _ => (r ()).2]
def times_H (r : Th (Set × Int)) : Hp := [vecO 99 fun _ => (r ()).1.spans]
def times_P (t : Table) (n : Int) : Prop := t.windows.length ≤ 9223372036854775807
def times_C : PC := fun A K => match A with
 | [.agg t, .i .i64 n] => Ob (fun _ => Dat.ok Table t ∧ times_P (Dat.dec t) (n ())) (Gen (α := Set × Int) (fun _ => timesV (Dat.dec t) (n ())) fun r => K (times_R fun _ => r) (times_H fun _ => r))
 | _ => Bad 1002
noncomputable def cTm : FuncId → Con := fun f => match f with
 | 42 => pureCon (detPC wchk_D)
 | 43 => pureCon (detPC wown_D)
 | 44 => pureCon ofP_C
 | _ => fun _ _ _ => Bad 1001
theorem cTm_ok : ConOk Tryz.prog cTm := fun f A H K h => by
 unfold cTm at h
 split at h
 · exact ⟨⟨Tryz.f42, Tryz.func42, by kernel_rfl, by kernel_rfl⟩, pureCon_ok wchk_ok h⟩
 · exact ⟨⟨Tryz.f43, Tryz.func43, by kernel_rfl, by kernel_rfl⟩, pureCon_ok wown_ok h⟩
 · exact ⟨⟨Tryz.f44, Tryz.func44, by kernel_rfl, by kernel_rfl⟩, pureCon_ok ofP_ok h⟩
 · cases h
structure TmX (t : Table) (n : Int) where
 k : Nat
 out : List Span
 hk : k ≤ t.windows.length
 hl : out.length ≤ k
 hr : tmL n t.windows = out ++ tmL n (t.windows.drop k)
set_option maxRecDepth 100000 in
set_option maxHeartbeats 4000000 in
theorem times_vc (t : Table) (n : Int) (hp : times_P t n) : FnOk Tryz.prog 23 [.agg (Dat.enc fun _ => t), .i .i64 fun _ => n] [] (outA (times_R fun _ => timesV t n) (times_H fun _ => timesV t n)) := by
 refine fn_ok envOk zl cTm_ok noDraws_ok (keep := [0, 1, 2, 4, 5, 6, 7, 9, 13, 18, 21, 22, 23, 24, 30]) Tryz.func23 rfl ?_
 have hp' : t.windows.length ≤ 9223372036854775807 := hp
 have fin0 : ∀ (e : Int) kl H, timesV t n = (⟨0, []⟩, e) → outA (times_R fun _ => timesV t n) (times_H fun _ => timesV t n) (.tup [.agg [.i .i64 fun _ => 0, .nil], .i .i64 fun _ => e]) H kl := fun e kl H h => by
   rw [h]
   cbv
   repeat' first | (refine Stp.mk ?_; cbv) | (refine Gen.mk fun r hr => ?_; (try simp only [Dat.ok, Dat.dec, Leaf.ok, Leaf.val, Z0, Z1, Z2, Z3, Z4, Z5, Z6, Z7, val_sl, val_nil] at hr); cbv) | exact trivial | rfl | refine Both.mk ?_ ?_ | (refine Imp.mk fun h => ?_; (try dsimp only at h); (try simp only [nc, Int.toNat_natCast, ne_eq, zz] at h); (try simp only [nc] at h)) | refine Ob.mk ?_ ?_ | refine Chk.mk (by kernel_rfl) ?_ | refine Eq'.mk ?_ | (refine AllN.mk fun i hi => ?_; cbv) | (refine AllC.mk fun c hc hcm => ?_; (try dsimp only at hc); cbv) | (refine AllS.mk fun r hr => ?_; (try simp only [Dat.ok, Dat.dec, Leaf.ok, Leaf.val, Z0, Z1, Z2, Z3, Z4, Z5, Z6, Z7, val_sl] at hr); cbv)
   all_goals first | rfl | (exfalso; omega)
 generalize hK : outA (times_R fun _ => timesV t n) (times_H fun _ => timesV t n) = K at fin0 ⊢
 cbv
 repeat' first | (show Stp _; exfalso; first | omega | (exact h ‹_›) | (exact absurd ‹_› h) | (exact Bool.false_ne_true (h.symm.trans (show _ = true by assumption)))) | (refine Stp.mk ?_; cbv) | (refine Gen.mk fun r hr => ?_; (try simp only [Dat.ok, Dat.dec, Leaf.ok, Leaf.val, Z0, Z1, Z2, Z3, Z4, Z5, Z6, Z7, val_sl, val_nil] at hr); cbv) | exact trivial | rfl | refine Both.mk ?_ ?_ | (refine Imp.mk fun h => ?_; (try dsimp only at h); (try simp only [nc, Int.toNat_natCast, ne_eq, zz] at h); (try simp only [nc] at h)) | refine Ob.mk ?_ ?_ | refine Chk.mk (by kernel_rfl) ?_ | refine Eq'.mk ?_ | (refine AllN.mk fun i hi => ?_; cbv) | (refine AllC.mk fun c hc hcm => ?_; (try dsimp only at hc); cbv) | (refine AllS.mk fun r hr => ?_; (try simp only [Dat.ok, Dat.dec, Leaf.ok, Leaf.val, Z0, Z1, Z2, Z3, Z4, Z5, Z6, Z7, val_sl] at hr); cbv)
 all_goals ((try dsimp only at *); (try simp only [nc, Int.toNat_natCast, ne_eq, zz] at *); (try simp only [nc] at *))
 all_goals try simp only [Dat.dec, Leaf.val, Z0, Z1, Z2, Z3, Z4, Z5, Z6, Z7, val_sl] at *
 all_goals first
   | exact ⟨⟨trivial, rfl, fun i _ => Dat.hok _⟩, hp'⟩
   | (refine fin0 _ _ _ ?_
      first
        | (rw [timesV, if_neg (by assumption)]; done)
        | (rw [timesV, if_pos (by assumption), if_neg (by simp_all)]; done))
   | skip
 have hw : wchkV t = 0 := by assumption
 have hR := wchk_iff.1 hw
 have hn : ownB n = true := by assumption
 have s1 := hR.s1
 have s2 := hR.s2
 have hlen := hR.len
 have hT : timesV t n = ofV t.frame (tmL n t.windows) := by rw [timesV, if_pos hw, if_pos hn]
 refine LoopVC.frame [7, 9, 23, 24, 30] (TmX t n) (fun x => [(23, .i .i64 fun _ => x.k), (7, .own 2 fun _ => x.out.length)]) (fun x => [(2, vecO 99 fun _ => x.out)]) [2] (fun x => t.windows.length - x.k) ⟨0, [], Nat.zero_le _, Nat.le_refl _, by rw [List.drop_zero]; rfl⟩ rfl (fun _ => rfl) ?_ ?_ fun ⟨k, out, hk, hl, hr⟩ => ?_
 iterate 2
   · cbv
     repeat' first | (refine Stp.mk ?_; cbv) | (refine Gen.mk fun r hr => ?_; (try simp only [Dat.ok, Dat.dec, Leaf.ok, Leaf.val, Z0, Z1, Z2, Z3, Z4, Z5, Z6, Z7, val_sl, val_nil] at hr); cbv) | exact trivial | rfl | refine Both.mk ?_ ?_ | (refine Imp.mk fun h => ?_; (try dsimp only at h); (try simp only [nc, Int.toNat_natCast, ne_eq, zz] at h); (try simp only [nc] at h)) | refine Ob.mk ?_ ?_ | refine Chk.mk (by kernel_rfl) ?_ | refine Eq'.mk ?_ | (refine AllN.mk fun i hi => ?_; cbv) | (refine AllC.mk fun c hc hcm => ?_; (try dsimp only at hc); cbv) | (refine AllS.mk fun r hr => ?_; (try simp only [Dat.ok, Dat.dec, Leaf.ok, Leaf.val, Z0, Z1, Z2, Z3, Z4, Z5, Z6, Z7, val_sl] at hr); cbv)
 · cbv
   repeat' first | (show Stp _; exfalso; first | omega | (exact h ‹_›) | (exact absurd ‹_› h) | (exact Bool.false_ne_true (h.symm.trans (show _ = true by assumption)))) | (refine Stp.mk ?_; cbv) | (refine Gen.mk fun r hr => ?_; (try simp only [Dat.ok, Dat.dec, Leaf.ok, Leaf.val, Z0, Z1, Z2, Z3, Z4, Z5, Z6, Z7, val_sl, val_nil] at hr); cbv) | exact trivial | rfl | refine Both.mk ?_ ?_ | (refine Imp.mk fun h => ?_; (try dsimp only at h); (try simp only [nc, Int.toNat_natCast, ne_eq, zz] at h); (try simp only [nc] at h)) | refine Ob.mk ?_ ?_ | refine Chk.mk (by kernel_rfl) ?_ | refine Eq'.mk ?_ | (refine AllN.mk fun i hi => ?_; cbv) | (refine AllC.mk fun c hc hcm => ?_; (try dsimp only at hc); cbv) | (refine AllS.mk fun r hr => ?_; (try simp only [Dat.ok, Dat.dec, Leaf.ok, Leaf.val, Z0, Z1, Z2, Z3, Z4, Z5, Z6, Z7, val_sl] at hr); cbv)
   all_goals ((try dsimp only at *); (try simp only [nc, Int.toNat_natCast, ne_eq, zz] at *); (try simp only [nc] at *))
   all_goals try rw [nc] at *
   all_goals try simp only [Dat.dec, Leaf.val, Z0, Z1, Z2, Z3, Z4, Z5, Z6, Z7, val_sl] at *
   all_goals first
     | omega
     | exact ⟨by omega, by omega⟩
     | exact ⟨Nat.le_refl _, trivial, by omega, by omega⟩
     | exact ⟨Nat.le_refl _, Nat.le_refl _, by omega, by omega⟩
     | (unfold InR; omega)
     | (have hb := okW_get hR (show k < t.windows.length by omega); unfold InR; omega)
     | skip
   · have hk2 : k < t.windows.length := by omega
     refine ⟨⟨k + 1, out ++ [⟨(t.windows.getD k Dat.d0).frm, (t.windows.getD k Dat.d0).frm + (t.windows.getD k Dat.d0).long⟩], by omega, by rw [List.length_append, List.length_singleton]; omega, by rw [hr, tmL_drop hk2, if_pos (by assumption)]; simp⟩, ?_, ?_, rfl, by (try dsimp only); omega⟩
     · cbv
       repeat' first | (refine Stp.mk ?_; cbv) | (refine Gen.mk fun r hr => ?_; (try simp only [Dat.ok, Dat.dec, Leaf.ok, Leaf.val, Z0, Z1, Z2, Z3, Z4, Z5, Z6, Z7, val_sl, val_nil] at hr); cbv) | exact trivial | rfl | refine Both.mk ?_ ?_ | (refine Imp.mk fun h => ?_; (try dsimp only at h); (try simp only [nc, Int.toNat_natCast, ne_eq, zz] at h); (try simp only [nc] at h)) | refine Ob.mk ?_ ?_ | refine Chk.mk (by kernel_rfl) ?_ | refine Eq'.mk ?_ | (refine AllN.mk fun i hi => ?_; cbv) | (refine AllC.mk fun c hc hcm => ?_; (try dsimp only at hc); cbv) | (refine AllS.mk fun r hr => ?_; (try simp only [Dat.ok, Dat.dec, Leaf.ok, Leaf.val, Z0, Z1, Z2, Z3, Z4, Z5, Z6, Z7, val_sl] at hr); cbv)
       all_goals first | rfl | (rw [List.length_append, List.length_singleton]; done)
     · cbv
       repeat' first | (refine Stp.mk ?_; cbv) | (refine Gen.mk fun r hr => ?_; (try simp only [Dat.ok, Dat.dec, Leaf.ok, Leaf.val, Z0, Z1, Z2, Z3, Z4, Z5, Z6, Z7, val_sl, val_nil] at hr); cbv) | exact trivial | rfl | refine Both.mk ?_ ?_ | (refine Imp.mk fun h => ?_; (try dsimp only at h); (try simp only [nc, Int.toNat_natCast, ne_eq, zz] at h); (try simp only [nc] at h)) | refine Ob.mk ?_ ?_ | refine Chk.mk (by kernel_rfl) ?_ | refine Eq'.mk ?_ | (refine AllN.mk fun i hi => ?_; cbv) | (refine AllC.mk fun c hc hcm => ?_; (try dsimp only at hc); cbv) | (refine AllS.mk fun r hr => ?_; (try simp only [Dat.ok, Dat.dec, Leaf.ok, Leaf.val, Z0, Z1, Z2, Z3, Z4, Z5, Z6, Z7, val_sl] at hr); cbv)
       all_goals ((try dsimp only at *); (try simp only [nc, Int.toNat_natCast, ne_eq, zz] at *); (try simp only [nc] at *))
       all_goals first
         | (rw [List.length_append, List.length_singleton]; done)
         | (rw [gd_snoc _ _ _ _ (by omega)]; cases decide (i < out.length) <;> rfl)
         | fail
   · have hk2 : k < t.windows.length := by omega
     refine ⟨⟨k + 1, out, by omega, by omega, by rw [hr, tmL_drop hk2, if_neg (by assumption)]⟩, ?_, ?_, rfl, by (try dsimp only); omega⟩
     iterate 2
       · cbv
         repeat' first | (refine Stp.mk ?_; cbv) | (refine Gen.mk fun r hr => ?_; (try simp only [Dat.ok, Dat.dec, Leaf.ok, Leaf.val, Z0, Z1, Z2, Z3, Z4, Z5, Z6, Z7, val_sl, val_nil] at hr); cbv) | exact trivial | rfl | refine Both.mk ?_ ?_ | (refine Imp.mk fun h => ?_; (try dsimp only at h); (try simp only [nc, Int.toNat_natCast, ne_eq, zz] at h); (try simp only [nc] at h)) | refine Ob.mk ?_ ?_ | refine Chk.mk (by kernel_rfl) ?_ | refine Eq'.mk ?_ | (refine AllN.mk fun i hi => ?_; cbv) | (refine AllC.mk fun c hc hcm => ?_; (try dsimp only at hc); cbv) | (refine AllS.mk fun r hr => ?_; (try simp only [Dat.ok, Dat.dec, Leaf.ok, Leaf.val, Z0, Z1, Z2, Z3, Z4, Z5, Z6, Z7, val_sl] at hr); cbv)
   · exact ⟨⟨rfl, fun i _ => Dat.hok _⟩, show out.length ≤ 1099511627776 by omega⟩
   · rename (_ = ofV _ _) => hq
     have e : r = timesV t n := by
       rw [hq, hT, hr, List.drop_eq_nil_of_le (by omega), tmL, List.append_nil]
     subst e
     rw [← hK]
     cbv
     repeat' first | (refine Stp.mk ?_; cbv) | (refine Gen.mk fun r hr => ?_; (try simp only [Dat.ok, Dat.dec, Leaf.ok, Leaf.val, Z0, Z1, Z2, Z3, Z4, Z5, Z6, Z7, val_sl, val_nil] at hr); cbv) | exact trivial | rfl | refine Both.mk ?_ ?_ | (refine Imp.mk fun h => ?_; (try dsimp only at h); (try simp only [nc, Int.toNat_natCast, ne_eq, zz] at h); (try simp only [nc] at h)) | refine Ob.mk ?_ ?_ | refine Chk.mk (by kernel_rfl) ?_ | refine Eq'.mk ?_ | (refine AllN.mk fun i hi => ?_; cbv) | (refine AllC.mk fun c hc hcm => ?_; (try dsimp only at hc); cbv) | (refine AllS.mk fun r hr => ?_; (try simp only [Dat.ok, Dat.dec, Leaf.ok, Leaf.val, Z0, Z1, Z2, Z3, Z4, Z5, Z6, Z7, val_sl] at hr); cbv)
theorem times_ok : PcOk Tryz.prog 23 (times_C) := fun A K h => by
 unfold times_C at h
 split at h
 · rename_i t n
   cases h with
   | mk h1 h2 =>
     obtain ⟨g0, hp⟩ := h1
     refine FnOk.pre ?_ (A' := [.agg (Dat.enc fun _ => (Dat.dec t : Table)), .i .i64 fun _ => n ()]) (.mk (Dat.hle _ g0) (.mk (.mk (.mk rfl) (.mk rfl)) (trivial)))
     exact FnOk.out (K := fun r H _ => K r H) (times_vc (Dat.dec t) (n ()) hp) rfl h2.out
 · cases h

end Go.Proofs.YtnjngpjkhddnfaaGreatDoor
