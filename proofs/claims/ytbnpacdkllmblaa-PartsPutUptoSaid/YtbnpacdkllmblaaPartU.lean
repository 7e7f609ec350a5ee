/- parts.tick of a part whose box is empty: walked. -/
import Derived.Test.YtbnpacdkllmblaaPartT
set_option linter.all false
namespace Go.Proofs.Ytbnpacdkllmblaa
open Go Go.Abs

set_option maxRecDepth 100000 in
set_option maxHeartbeats 4000000 in
theorem ticke_vc (m : Module) (hm : mchkV m = 0) (R : Module × Int) (hR : tickV m = R) (hne : partB m (ownerV m.table m.now).1 = true → (m.parts.getD (ownerV m.table m.now).1.toNat Dat.d0).box.length = 0) :
    FnOk Try.prog 39 [.ptr 0 0] [.blk (mdA 1 fun _ => m), psO (fun _ => m.parts.length) fun _ => m.parts] (outLe 2 (.i .i64 fun _ => R.2) [.blk (mdA 1 fun _ => R.1), psO (fun _ => R.1.parts.length) fun _ => R.1.parts] [1]) := by
  generalize hK : outLe 2 (.i .i64 fun _ => R.2) [.blk (mdA 1 fun _ => R.1), psO (fun _ => R.1.parts.length) fun _ => R.1.parts] [1] = K
  have M := mchk_iff.1 hm
  have T := wchk_iff.1 M.t
  have lp := M.lp
  have lw := M.lw
  refine fn_ok envOk zl cTk_ok (drawsN_ok envOk zl dTe_ok mixed) (keep := [0, 2, 3, 5, 6, 7, 8, 12, 24, 49, 88, 89, 90, 91]) Try.func39 rfl ?_
  cbv
  repeat' first | (show Stp _; exfalso; first | omega | (exact h ‹_›) | (exact absurd ‹_› h) | (exact Bool.false_ne_true (h.symm.trans (show _ = true by assumption)))) | (refine Stp.mk ?_; cbv) | (refine Gen.mk fun r hr => ?_; (try simp only [Dat.ok, Dat.dec, Leaf.ok, Leaf.val, Z0, Z1, Z2, Z3, Z4, Z5, Z6, Z7, val_sl, val_nil] at hr); cbv) | exact trivial | rfl | refine Both.mk ?_ ?_ | (refine Imp.mk fun h => ?_; (try dsimp only at h); (try simp only [nc, Int.toNat_natCast, ne_eq, zz] at h); (try simp only [nc] at h)) | refine Ob.mk ?_ ?_ | refine Chk.mk (by kernel_rfl) ?_ | refine Eq'.mk ?_ | (refine AllN.mk fun i hi => ?_; cbv) | (refine AllC.mk fun c hc hcm => ?_; (try dsimp only at hc); cbv) | (refine AllS.mk fun r hr => ?_; (try simp only [Dat.ok, Dat.dec, Leaf.ok, Leaf.val, Z0, Z1, Z2, Z3, Z4, Z5, Z6, Z7, val_sl] at hr); cbv)
  all_goals ((try dsimp only at *); (try simp only [nc, Int.toNat_natCast, ne_eq, zz] at *); (try simp only [nc] at *))
  all_goals try simp only [Dat.dec, Leaf.val, Z0, Z1, Z2, Z3, Z4, Z5, Z6, Z7, val_sl] at *
  all_goals first
    | (subst hK
       have hR2 : R = (m, 6) := by rw [← hR, tickV, if_pos (by omega)]
       subst hR2
       cbv
       repeat' first | (refine Stp.mk ?_; cbv) | (refine Gen.mk fun r hr => ?_; (try simp only [Dat.ok, Dat.dec, Leaf.ok, Leaf.val, Z0, Z1, Z2, Z3, Z4, Z5, Z6, Z7, val_sl, val_nil] at hr); cbv) | exact trivial | rfl | refine Both.mk ?_ ?_ | (refine Imp.mk fun h => ?_; (try dsimp only at h); (try simp only [nc, Int.toNat_natCast, ne_eq, zz] at h); (try simp only [nc] at h)) | refine Ob.mk ?_ ?_ | refine Chk.mk (by kernel_rfl) ?_ | refine Eq'.mk ?_ | (refine AllN.mk fun i hi => ?_; cbv) | (refine AllC.mk fun c hc hcm => ?_; (try dsimp only at hc); cbv) | (refine AllS.mk fun r hr => ?_; (try simp only [Dat.ok, Dat.dec, Leaf.ok, Leaf.val, Z0, Z1, Z2, Z3, Z4, Z5, Z6, Z7, val_sl] at hr); cbv)
       done)
    | exact ⟨⟨trivial, rfl, fun i _ => Dat.hok _⟩, by show (_ : Nat) ≤ _; have := T.len; omega⟩
    | (have := M.now; unfold InR; omega)
    | exact Nat.le_refl _
    | exact ⟨⟨trivial, ⟨rfl, fun i _ => Dat.hok _⟩, ⟨rfl, fun i _ => rowP_ok (ps := m.parts)⟩, ⟨rfl, fun i _ => Dat.hok _⟩, trivial, trivial⟩, by show (slV (psA m.parts) : List Part).length ≤ _; rw [psA_val]; omega⟩
    | (have hb : partB m (ownerV m.table m.now).1 = false := partB_eq (by assumption)
       subst hK
       have hR2 : R = (⟨m.table, m.parts, m.wires, m.now + 1, m.lost⟩, 0) := by rw [← hR, tickV, if_neg (by omega), if_pos hb]
       subst hR2
       cbv
       repeat' first | (refine Stp.mk ?_; cbv) | (refine Gen.mk fun r hr => ?_; (try simp only [Dat.ok, Dat.dec, Leaf.ok, Leaf.val, Z0, Z1, Z2, Z3, Z4, Z5, Z6, Z7, val_sl, val_nil] at hr); cbv) | exact trivial | rfl | refine Both.mk ?_ ?_ | (refine Imp.mk fun h => ?_; (try dsimp only at h); (try simp only [nc, Int.toNat_natCast, ne_eq, zz] at h); (try simp only [nc] at h)) | refine Ob.mk ?_ ?_ | refine Chk.mk (by kernel_rfl) ?_ | refine Eq'.mk ?_ | (refine AllN.mk fun i hi => ?_; cbv) | (refine AllC.mk fun c hc hcm => ?_; (try dsimp only at hc); cbv) | (refine AllS.mk fun r hr => ?_; (try simp only [Dat.ok, Dat.dec, Leaf.ok, Leaf.val, Z0, Z1, Z2, Z3, Z4, Z5, Z6, Z7, val_sl] at hr); cbv)
       done)
    | (have hb : partB m (ownerV m.table m.now).1 = true := partB_eq (by assumption)
       have hb2 := of_decide_eq_true hb
       first
         | exact ⟨hb2.1, hb2.2⟩
         | omega)
    | (have hb : partB m (ownerV m.table m.now).1 = true := partB_eq (by assumption)
       have hb2 := of_decide_eq_true hb
       have P := prt_iff.1 (M.p (m.parts.getD (ownerV m.table m.now).1.toNat Dat.d0) (by
         have h9 : (ownerV m.table m.now).1.toNat < m.parts.length := by omega
         rw [List.getD_eq_getElem?_getD, List.getElem?_eq_getElem h9]; exact List.getElem_mem h9))
       have bd := @runV_bd (m.parts.getD (ownerV m.table m.now).1.toNat Dat.d0).code (m.parts.getD (ownerV m.table m.now).1.toNat Dat.d0).vm (m.parts.getD (ownerV m.table m.now).1.toNat Dat.d0).box 1
       have c1 := check_len P.c
       have c2 := (rightV_ok P.v).2.1
       have c3 := P.l
       first
         | exact ⟨Nat.le_refl _, ⟨rfl, fun i _ => Dat.hok _⟩, ⟨trivial, ⟨rfl, fun i _ => Dat.hok _⟩, trivial, trivial⟩, ⟨rfl, fun i _ => Dat.hok _⟩, Nat.le_trans c1 (by decide), Nat.le_trans (Nat.le_of_eq c2) (by decide), Nat.le_trans c3 (by decide)⟩
         | exact ⟨rfl, trivial, fun i _ => Dat.hok _, hne hb, rfl, by have := hne hb; omega⟩)
    | skip
  have hb : partB m (ownerV m.table m.now).1 = true := partB_eq (by assumption)
  have hb2 := of_decide_eq_true hb
  obtain ⟨q, hq⟩ : ∃ q : Nat, (ownerV m.table m.now).1 = q := ⟨(ownerV m.table m.now).1.toNat, by omega⟩
  have hq2 : q < m.parts.length := by omega
  have P := prt_iff.1 (M.p (m.parts.getD q Dat.d0) (by rw [List.getD_eq_getElem?_getD, List.getElem?_eq_getElem hq2]; exact List.getElem_mem hq2))
  have bd := @runV_bd (m.parts.getD q Dat.d0).code (m.parts.getD q Dat.d0).vm (m.parts.getD q Dat.d0).box 1
  have ol := @out_len (m.parts.getD q Dat.d0)
  have hz := hne hb
  rw [hq, Int.toNat_natCast] at hz
  have eF : dlE_F (m.parts.getD q Dat.d0).box 0 (runV (m.parts.getD q Dat.d0).code (m.parts.getD q Dat.d0).vm (m.parts.getD q Dat.d0).box 1).2.2.1 = (ranP (m.parts.getD q Dat.d0)).box := by
    show (m.parts.getD q Dat.d0).box = List.drop _ _
    rw [List.eq_nil_of_length_eq_zero hz]; simp
  have eN : dlE_N (m.parts.getD q Dat.d0).box 0 (runV (m.parts.getD q Dat.d0).code (m.parts.getD q Dat.d0).vm (m.parts.getD q Dat.d0).box 1).2.2.1 = (ranP (m.parts.getD q Dat.d0)).box.length := by
    rw [← eF]; rfl
  have eT : tickV m = (sendsV q (outP (m.parts.getD q Dat.d0)) ⟨m.table, m.parts.set q (ranP (m.parts.getD q Dat.d0)), m.wires, m.now + 1, m.lost⟩, 0) := by
    rw [tickV, if_neg (by omega), if_neg (by rw [hb]; decide), hq, Int.toNat_natCast]
  rw [hq] at *
  simp only [Int.toNat_natCast] at *
  have hS0 : SOk ⟨m.table, m.parts.set q (ranP (m.parts.getD q Dat.d0)), m.wires, m.now + 1, m.lost⟩ := by
    refine ⟨by rw [List.length_set]; exact lp, lw, by rw [List.length_set]; exact M.w, ⟨M.lost.1, by have := M.lost.2; show m.lost ≤ _; omega⟩, fun p hp => ?_⟩
    rcases List.mem_or_eq_of_mem_set hp with hp | rfl
    · exact (prt_iff.1 (M.p p hp)).l
    · have := P.l
      unfold ranP
      show (List.drop _ _).length ≤ 50
      rw [List.length_drop]; omega
  refine .cls ?_
  cbv
  repeat' first | (refine Stp.mk ?_; cbv) | (refine Gen.mk fun r hr => ?_; (try simp only [Dat.ok, Dat.dec, Leaf.ok, Leaf.val, Z0, Z1, Z2, Z3, Z4, Z5, Z6, Z7, val_sl, val_nil] at hr); cbv) | exact trivial | rfl | refine Both.mk ?_ ?_ | (refine Imp.mk fun h => ?_; (try dsimp only at h); (try simp only [nc, Int.toNat_natCast, ne_eq, zz] at h); (try simp only [nc] at h)) | refine Ob.mk ?_ ?_ | refine Chk.mk (by kernel_rfl) ?_ | refine Eq'.mk ?_ | (refine AllN.mk fun i hi => ?_; cbv) | (refine AllC.mk fun c hc hcm => ?_; (try dsimp only at hc); cbv) | (refine AllS.mk fun r hr => ?_; (try simp only [Dat.ok, Dat.dec, Leaf.ok, Leaf.val, Z0, Z1, Z2, Z3, Z4, Z5, Z6, Z7, val_sl] at hr); cbv)
  refine LoopI.frameC (5 :: [12, 90, 91]) (TkX q (outP (m.parts.getD q Dat.d0)) ⟨m.table, m.parts.set q (ranP (m.parts.getD q Dat.d0)), m.wires, m.now + 1, m.lost⟩) (fun x => [(90, .i .i64 fun _ => x.k), (5, .any)]) (fun x => [(0, .blk (mdA 1 fun _ => x.m')), (1, psO (fun _ => x.m'.parts.length) fun _ => x.m'.parts)]) [1, 2, 4, 5, 6, 7, 8, 9, 10, 11, 12] (fun x => (outP (m.parts.getD q Dat.d0)).length - x.k)
    ⟨0, _, Nat.zero_le _, hS0, by show m.lost ≤ m.lost + 32 * 0; omega, by rw [List.drop_zero]⟩ rfl (fun _ => rfl) ?_ ?_ fun ⟨k, m', hk, hS, hx, he⟩ => ?_
  · cbv
    repeat' first | (refine Stp.mk ?_; cbv) | (refine Gen.mk fun r hr => ?_; (try simp only [Dat.ok, Dat.dec, Leaf.ok, Leaf.val, Z0, Z1, Z2, Z3, Z4, Z5, Z6, Z7, val_sl, val_nil] at hr); cbv) | exact trivial | rfl | refine Both.mk ?_ ?_ | (refine Imp.mk fun h => ?_; (try dsimp only at h); (try simp only [nc, Int.toNat_natCast, ne_eq, zz] at h); (try simp only [nc] at h)) | refine Ob.mk ?_ ?_ | refine Chk.mk (by kernel_rfl) ?_ | refine Eq'.mk ?_ | (refine AllN.mk fun i hi => ?_; cbv) | (refine AllC.mk fun c hc hcm => ?_; (try dsimp only at hc); cbv) | (refine AllS.mk fun r hr => ?_; (try simp only [Dat.ok, Dat.dec, Leaf.ok, Leaf.val, Z0, Z1, Z2, Z3, Z4, Z5, Z6, Z7, val_sl] at hr); cbv)
    all_goals fail
  · cbv
    repeat' first | (refine Stp.mk ?_; cbv) | (refine Gen.mk fun r hr => ?_; (try simp only [Dat.ok, Dat.dec, Leaf.ok, Leaf.val, Z0, Z1, Z2, Z3, Z4, Z5, Z6, Z7, val_sl, val_nil] at hr); cbv) | exact trivial | rfl | refine Both.mk ?_ ?_ | (refine Imp.mk fun h => ?_; (try dsimp only at h); (try simp only [nc, Int.toNat_natCast, ne_eq, zz] at h); (try simp only [nc] at h)) | refine Ob.mk ?_ ?_ | refine Chk.mk (by kernel_rfl) ?_ | refine Eq'.mk ?_ | (refine AllN.mk fun i hi => ?_; cbv) | (refine AllC.mk fun c hc hcm => ?_; (try dsimp only at hc); cbv) | (refine AllS.mk fun r hr => ?_; (try simp only [Dat.ok, Dat.dec, Leaf.ok, Leaf.val, Z0, Z1, Z2, Z3, Z4, Z5, Z6, Z7, val_sl] at hr); cbv)
    all_goals ((try dsimp only at *); (try simp only [nc, Int.toNat_natCast, ne_eq, zz] at *); (try simp only [nc] at *))
    all_goals try simp only [eN, eF] at *
    all_goals first
      | rfl
      | exact (List.length_set).symm
      | exact setP_f (fun p => p.vm.at_) (by assumption) rfl
      | exact setP_f (fun p => p.vm.halts) (by assumption) rfl
      | exact setP_f (fun p => p.vm.fault) (by assumption) rfl
      | exact setP_f (fun p => p.box.length) (by assumption) rfl
      | exact setP_f (fun p => p.box.getD _ Dat.d0) (by assumption) rfl
      | (rw [setP_y] <;> first | rfl | assumption)
      | exact congrArg (fun (p : Part) => p.code.length) (setP_n (by assumption) (by assumption)).symm
      | exact congrArg (fun (p : Part) => (p.code.getD _ Dat.d0).code) (setP_n (by assumption) (by assumption)).symm
      | exact congrArg (fun (p : Part) => (p.code.getD _ Dat.d0).a) (setP_n (by assumption) (by assumption)).symm
      | exact congrArg (fun (p : Part) => (p.code.getD _ Dat.d0).b) (setP_n (by assumption) (by assumption)).symm
      | exact congrArg (fun (p : Part) => p.vm.regs.length) (setP_n (by assumption) (by assumption)).symm
      | exact congrArg (fun (p : Part) => p.vm.regs.getD _ Dat.d0) (setP_n (by assumption) (by assumption)).symm
      | (simp; done)
      | fail
  have hx : m'.lost ≤ m.lost + 32 * k := hx
  have hx9 : m'.lost + 32 ≤ m.lost + 32 * ((k + 1 : Nat) : Int) := by rw [show ((k + 1 : Nat) : Int) = (k : Int) + 1 from rfl, Int.mul_add]; omega
  have hl2 : m'.lost ≤ 2199023255552 := by omega
  have st := fun h => @sends_step q (outP (m.parts.getD q Dat.d0)) m' k h
  have sk := @sok_step q ((outP (m.parts.getD q Dat.d0)).getD k Dat.d0) m' hS hl2
  cbv
  repeat' first | (refine Stp.mk ?_; cbv) | (refine Gen.mk fun r hr => ?_; (try simp only [Dat.ok, Dat.dec, Leaf.ok, Leaf.val, Z0, Z1, Z2, Z3, Z4, Z5, Z6, Z7, val_sl, val_nil] at hr); cbv) | exact trivial | rfl | refine Both.mk ?_ ?_ | (refine Imp.mk fun h => ?_; (try dsimp only at h); (try simp only [nc, Int.toNat_natCast, ne_eq, zz] at h); (try simp only [nc] at h)) | refine Ob.mk ?_ ?_ | refine Chk.mk (by kernel_rfl) ?_ | refine Eq'.mk ?_ | (refine AllN.mk fun i hi => ?_; cbv) | (refine AllC.mk fun c hc hcm => ?_; (try dsimp only at hc); cbv) | (refine AllS.mk fun r hr => ?_; (try simp only [Dat.ok, Dat.dec, Leaf.ok, Leaf.val, Z0, Z1, Z2, Z3, Z4, Z5, Z6, Z7, val_sl] at hr); cbv)
  · have h9 : k < (outP (m.parts.getD q Dat.d0)).length := Int.ofNat_lt.1 h
    exact ⟨Int.natCast_nonneg k, Int.ofNat_lt.2 h9⟩
  · have h9 : k < (outP (m.parts.getD q Dat.d0)).length := Int.ofNat_lt.1 h
    have st := st h9
    refine SndI.mk m' q ((outP (m.parts.getD q Dat.d0)).getD k Dat.d0) hS rfl ?_ ?_ fun R2 hR2 => ?_
    · cbv
      repeat' first | (refine Stp.mk ?_; cbv) | (refine Gen.mk fun r hr => ?_; (try simp only [Dat.ok, Dat.dec, Leaf.ok, Leaf.val, Z0, Z1, Z2, Z3, Z4, Z5, Z6, Z7, val_sl, val_nil] at hr); cbv) | exact trivial | rfl | refine Both.mk ?_ ?_ | (refine Imp.mk fun h => ?_; (try dsimp only at h); (try simp only [nc, Int.toNat_natCast, ne_eq, zz] at h); (try simp only [nc] at h)) | refine Ob.mk ?_ ?_ | refine Chk.mk (by kernel_rfl) ?_ | refine Eq'.mk ?_ | (refine AllN.mk fun i hi => ?_; cbv) | (refine AllC.mk fun c hc hcm => ?_; (try dsimp only at hc); cbv) | (refine AllS.mk fun r hr => ?_; (try simp only [Dat.ok, Dat.dec, Leaf.ok, Leaf.val, Z0, Z1, Z2, Z3, Z4, Z5, Z6, Z7, val_sl] at hr); cbv)
      all_goals fail
    · cbv
      repeat' first | (refine Stp.mk ?_; cbv) | (refine Gen.mk fun r hr => ?_; (try simp only [Dat.ok, Dat.dec, Leaf.ok, Leaf.val, Z0, Z1, Z2, Z3, Z4, Z5, Z6, Z7, val_sl, val_nil] at hr); cbv) | exact trivial | rfl | refine Both.mk ?_ ?_ | (refine Imp.mk fun h => ?_; (try dsimp only at h); (try simp only [nc, Int.toNat_natCast, ne_eq, zz] at h); (try simp only [nc] at h)) | refine Ob.mk ?_ ?_ | refine Chk.mk (by kernel_rfl) ?_ | refine Eq'.mk ?_ | (refine AllN.mk fun i hi => ?_; cbv) | (refine AllC.mk fun c hc hcm => ?_; (try dsimp only at hc); cbv) | (refine AllS.mk fun r hr => ?_; (try simp only [Dat.ok, Dat.dec, Leaf.ok, Leaf.val, Z0, Z1, Z2, Z3, Z4, Z5, Z6, Z7, val_sl] at hr); cbv)
      all_goals fail
    · cbv
      repeat' first | (refine Stp.mk ?_; cbv) | (refine Gen.mk fun r hr => ?_; (try simp only [Dat.ok, Dat.dec, Leaf.ok, Leaf.val, Z0, Z1, Z2, Z3, Z4, Z5, Z6, Z7, val_sl, val_nil] at hr); cbv) | exact trivial | rfl | refine Both.mk ?_ ?_ | (refine Imp.mk fun h => ?_; (try dsimp only at h); (try simp only [nc, Int.toNat_natCast, ne_eq, zz] at h); (try simp only [nc] at h)) | refine Ob.mk ?_ ?_ | refine Chk.mk (by kernel_rfl) ?_ | refine Eq'.mk ?_ | (refine AllN.mk fun i hi => ?_; cbv) | (refine AllC.mk fun c hc hcm => ?_; (try dsimp only at hc); cbv) | (refine AllS.mk fun r hr => ?_; (try simp only [Dat.ok, Dat.dec, Leaf.ok, Leaf.val, Z0, Z1, Z2, Z3, Z4, Z5, Z6, Z7, val_sl] at hr); cbv)
      all_goals first
        | (show InR ((k : Int) + 1); unfold InR; omega)
        | (have sk2 := sk
           rw [hR2] at sk2 st
           refine ⟨⟨k + 1, R2, by omega, sk2.1, Int.le_trans sk2.2 hx9, he.trans st⟩, ?_, ?_, rfl, by (try dsimp only); omega⟩
           · cbv
             repeat' first | (refine Stp.mk ?_; cbv) | (refine Gen.mk fun r hr => ?_; (try simp only [Dat.ok, Dat.dec, Leaf.ok, Leaf.val, Z0, Z1, Z2, Z3, Z4, Z5, Z6, Z7, val_sl, val_nil] at hr); cbv) | exact trivial | rfl | refine Both.mk ?_ ?_ | (refine Imp.mk fun h => ?_; (try dsimp only at h); (try simp only [nc, Int.toNat_natCast, ne_eq, zz] at h); (try simp only [nc] at h)) | refine Ob.mk ?_ ?_ | refine Chk.mk (by kernel_rfl) ?_ | refine Eq'.mk ?_ | (refine AllN.mk fun i hi => ?_; cbv) | (refine AllC.mk fun c hc hcm => ?_; (try dsimp only at hc); cbv) | (refine AllS.mk fun r hr => ?_; (try simp only [Dat.ok, Dat.dec, Leaf.ok, Leaf.val, Z0, Z1, Z2, Z3, Z4, Z5, Z6, Z7, val_sl] at hr); cbv)
           · cbv
             repeat' first | (refine Stp.mk ?_; cbv) | (refine Gen.mk fun r hr => ?_; (try simp only [Dat.ok, Dat.dec, Leaf.ok, Leaf.val, Z0, Z1, Z2, Z3, Z4, Z5, Z6, Z7, val_sl, val_nil] at hr); cbv) | exact trivial | rfl | refine Both.mk ?_ ?_ | (refine Imp.mk fun h => ?_; (try dsimp only at h); (try simp only [nc, Int.toNat_natCast, ne_eq, zz] at h); (try simp only [nc] at h)) | refine Ob.mk ?_ ?_ | refine Chk.mk (by kernel_rfl) ?_ | refine Eq'.mk ?_ | (refine AllN.mk fun i hi => ?_; cbv) | (refine AllC.mk fun c hc hcm => ?_; (try dsimp only at hc); cbv) | (refine AllS.mk fun r hr => ?_; (try simp only [Dat.ok, Dat.dec, Leaf.ok, Leaf.val, Z0, Z1, Z2, Z3, Z4, Z5, Z6, Z7, val_sl] at hr); cbv)
             all_goals fail)
        | fail
  · have h9 : (outP (m.parts.getD q Dat.d0)).length ≤ k := Int.ofNat_le.1 h
    have eR : R = (m', 0) := by rw [← hR, eT, he, List.drop_eq_nil_of_le h9, sendsV]
    subst eR
    subst hK
    cbv
    repeat' first | (refine Stp.mk ?_; cbv) | (refine Gen.mk fun r hr => ?_; (try simp only [Dat.ok, Dat.dec, Leaf.ok, Leaf.val, Z0, Z1, Z2, Z3, Z4, Z5, Z6, Z7, val_sl, val_nil] at hr); cbv) | exact trivial | rfl | refine Both.mk ?_ ?_ | (refine Imp.mk fun h => ?_; (try dsimp only at h); (try simp only [nc, Int.toNat_natCast, ne_eq, zz] at h); (try simp only [nc] at h)) | refine Ob.mk ?_ ?_ | refine Chk.mk (by kernel_rfl) ?_ | refine Eq'.mk ?_ | (refine AllN.mk fun i hi => ?_; cbv) | (refine AllC.mk fun c hc hcm => ?_; (try dsimp only at hc); cbv) | (refine AllS.mk fun r hr => ?_; (try simp only [Dat.ok, Dat.dec, Leaf.ok, Leaf.val, Z0, Z1, Z2, Z3, Z4, Z5, Z6, Z7, val_sl] at hr); cbv)
    all_goals fail
theorem tick_vc (m : Module) (hm : mchkV m = 0) (R : Module × Int) (hR : tickV m = R) :
    FnOk Try.prog 39 [.ptr 0 0] [.blk (mdA 1 fun _ => m), psO (fun _ => m.parts.length) fun _ => m.parts] (outLe 2 (.i .i64 fun _ => R.2) [.blk (mdA 1 fun _ => R.1), psO (fun _ => R.1.parts.length) fun _ => R.1.parts] [1]) := by
  rcases Nat.eq_zero_or_pos (m.parts.getD (ownerV m.table m.now).1.toNat Dat.d0).box.length with h | h
  · exact ticke_vc m hm R hR fun _ => h
  · exact tickn_vc m hm R hR fun _ => h
inductive TkI (A : List AV) (H : Hp) (K : Kont) : Prop where
  | mk (m : Module) (h1 : mchkV m = 0) (h2 : H.length = 2) (h3 : leL 2 A [.ptr 0 0]) (h4 : leH H [.blk (mdA 1 fun _ => m), psO (fun _ => m.parts.length) fun _ => m.parts])
    (h5 : ∀ R, tickV m = R → K (.i .i64 fun _ => R.2) [.blk (mdA 1 fun _ => R.1), psO (fun _ => R.1.parts.length) fun _ => R.1.parts] [1])
noncomputable def tck_K : Con := subCon TkI
theorem tck_ok {A : List AV} {H : Hp} {K : Kont} (hv : tck_K A H K) : FnOk Try.prog 39 A H K :=
  subCon_ok (fun {A H K} hv => by
    obtain ⟨m, h1, h2, h3, h4, h5⟩ := hv
    exact preL (FnOk.le (tick_vc m h1 _ rfl) rfl (h5 _ rfl)) h2 h3 h4) hv

end Go.Proofs.Ytbnpacdkllmblaa
