/- parts.Run: walked. -/
import Derived.Test.YtbnpacdkllmblaaPartW
set_option linter.all false
namespace Go.Proofs.Ytbnpacdkllmblaa
open Go Go.Abs

structure RuX (m0 : Module) (n : Nat) where
  k : Nat
  m : Module
  hk : k ≤ n
  hm : mchkV m = 0
  he : ticksV n m0 = ticksV (n - k) m
noncomputable def cRu : FuncId → Con := fun f => match f with
  | 12 => pureCon (detPC mchkC_D)
  | 38 => ownPC_K
  | 39 => tck_K
  | _ => fun _ _ _ => Bad 1001
theorem cRu_ok : ConOk Try.prog cRu := fun f A H K h => by
  unfold cRu at h
  split at h
  · exact ⟨⟨Try.f12, Try.func12, by kernel_rfl, by kernel_rfl⟩, pureCon_ok mchkC_ok h⟩
  · exact ⟨⟨Try.f38, Try.func38, by kernel_rfl, by kernel_rfl⟩, ownPC_ok h⟩
  · exact ⟨⟨Try.f39, Try.func39, by kernel_rfl, by kernel_rfl⟩, tck_ok h⟩
  · cases h
def dRu : FuncId → Option Dt := fun f => match f with
  | _ => none
theorem dRu_ok : DetOk Try.prog dRu := fun f d h => by
  unfold dRu at h
  split at h
  · cases h
set_option maxRecDepth 100000 in
set_option maxHeartbeats 4000000 in
theorem runo_vc (m : Module) (n : Int) (hp : mchkC_P m) (R : Module × Int) (hR : runPV m n = R) :
    FnOk Try.prog 18 [.agg (Dat.enc fun _ => m), .i .i64 fun _ => n] [] (outA (.tup [.agg (mdA 0 fun _ => R.1), .i .i64 fun _ => R.2]) [psO (fun _ => R.1.parts.length) fun _ => R.1.parts]) := by
  have fin0 : ∀ e H kl, R = (zM, e) → outA (.tup [.agg (mdA 0 fun _ => R.1), .i .i64 fun _ => R.2]) [psO (fun _ => R.1.parts.length) fun _ => R.1.parts] (.tup [.agg [.i .i64 fun _ => 0, .nil, .nil, .nil, .i .i64 fun _ => 0, .i .i64 fun _ => 0], .i .i64 fun _ => e]) H kl := fun e H kl h => by
    subst h
    cbv
    repeat' first | (refine Stp.mk ?_; cbv) | (refine Gen.mk fun r hr => ?_; (try simp only [Dat.ok, Dat.dec, Leaf.ok, Leaf.val, Z0, Z1, Z2, Z3, Z4, Z5, Z6, Z7, val_sl, val_nil] at hr); cbv) | exact trivial | rfl | refine Both.mk ?_ ?_ | (refine Imp.mk fun h => ?_; (try dsimp only at h); (try simp only [nc, Int.toNat_natCast, ne_eq, zz] at h); (try simp only [nc] at h)) | refine Ob.mk ?_ ?_ | refine Chk.mk (by kernel_rfl) ?_ | refine Eq'.mk ?_ | (refine AllN.mk fun i hi => ?_; cbv) | (refine AllC.mk fun c hc hcm => ?_; (try dsimp only at hc); cbv) | (refine AllS.mk fun r hr => ?_; (try simp only [Dat.ok, Dat.dec, Leaf.ok, Leaf.val, Z0, Z1, Z2, Z3, Z4, Z5, Z6, Z7, val_sl] at hr); cbv)
    all_goals first | exact absurd hi (Nat.not_lt_zero _) | fail
  have fin1 : ∀ m' a0 a1 a2 a3 kl, R = (m', 0) → outA (.tup [.agg (mdA 0 fun _ => R.1), .i .i64 fun _ => R.2]) [psO (fun _ => R.1.parts.length) fun _ => R.1.parts] (.tup [.agg (mdA 4 fun _ => m'), .i .i64 fun _ => 0]) [a0, a1, a2, a3, psO (fun _ => m'.parts.length) fun _ => m'.parts] kl := fun m' a0 a1 a2 a3 kl h => by
    subst h
    cbv
    repeat' first | (refine Stp.mk ?_; cbv) | (refine Gen.mk fun r hr => ?_; (try simp only [Dat.ok, Dat.dec, Leaf.ok, Leaf.val, Z0, Z1, Z2, Z3, Z4, Z5, Z6, Z7, val_sl, val_nil] at hr); cbv) | exact trivial | rfl | refine Both.mk ?_ ?_ | (refine Imp.mk fun h => ?_; (try dsimp only at h); (try simp only [nc, Int.toNat_natCast, ne_eq, zz] at h); (try simp only [nc] at h)) | refine Ob.mk ?_ ?_ | refine Chk.mk (by kernel_rfl) ?_ | refine Eq'.mk ?_ | (refine AllN.mk fun i hi => ?_; cbv) | (refine AllC.mk fun c hc hcm => ?_; (try dsimp only at hc); cbv) | (refine AllS.mk fun r hr => ?_; (try simp only [Dat.ok, Dat.dec, Leaf.ok, Leaf.val, Z0, Z1, Z2, Z3, Z4, Z5, Z6, Z7, val_sl] at hr); cbv)
    all_goals fail
  generalize outA (.tup [.agg (mdA 0 fun _ => R.1), .i .i64 fun _ => R.2]) [psO (fun _ => R.1.parts.length) fun _ => R.1.parts] = K at fin0 fin1 ⊢
  refine fn_ok envOk zl cRu_ok noDraws_ok (keep := [0, 1, 2, 4, 5, 6, 7, 11, 19, 23, 24, 25, 28]) Try.func18 rfl ?_
  cbv
  repeat' first | (show Stp _; exfalso; first | omega | (exact h ‹_›) | (exact absurd ‹_› h) | (exact Bool.false_ne_true (h.symm.trans (show _ = true by assumption)))) | (refine Stp.mk ?_; cbv) | (refine Gen.mk fun r hr => ?_; (try simp only [Dat.ok, Dat.dec, Leaf.ok, Leaf.val, Z0, Z1, Z2, Z3, Z4, Z5, Z6, Z7, val_sl, val_nil] at hr); cbv) | exact trivial | rfl | refine Both.mk ?_ ?_ | (refine Imp.mk fun h => ?_; (try dsimp only at h); (try simp only [nc, Int.toNat_natCast, ne_eq, zz] at h); (try simp only [nc] at h)) | refine Ob.mk ?_ ?_ | refine Chk.mk (by kernel_rfl) ?_ | refine Eq'.mk ?_ | (refine AllN.mk fun i hi => ?_; cbv) | (refine AllC.mk fun c hc hcm => ?_; (try dsimp only at hc); cbv) | (refine AllS.mk fun r hr => ?_; (try simp only [Dat.ok, Dat.dec, Leaf.ok, Leaf.val, Z0, Z1, Z2, Z3, Z4, Z5, Z6, Z7, val_sl] at hr); cbv)
  all_goals ((try dsimp only at *); (try simp only [nc, Int.toNat_natCast, ne_eq, zz] at *); (try simp only [nc] at *))
  all_goals try simp only [Dat.dec, Leaf.val, Z0, Z1, Z2, Z3, Z4, Z5, Z6, Z7, val_sl] at *
  all_goals try first
    | exact ⟨⟨trivial, ⟨rfl, fun i _ => Dat.hok _⟩, ⟨rfl, fun i _ => Dat.hok _⟩, ⟨rfl, fun i _ => Dat.hok _⟩, trivial, trivial⟩, hp⟩
    | (refine fin0 _ _ _ ?_
       rw [← hR, runPV, if_pos (by assumption)]
       done)
    | (refine fin0 _ _ _ ?_
       rw [← hR, runPV, if_neg (fun q => q (by assumption)), if_pos (by omega)]
       done)
  have hm : mchkV m = 0 := by assumption
  have n0 : 0 ≤ n := by assumption
  have n1 : n ≤ 5000 := by assumption
  have eR : R = ticksV n.toNat m := by rw [← hR, runPV, if_neg (fun q => q hm), if_neg (by omega)]
  refine OwnP.mk m hm ?_ ?_
  · cbv
    repeat' first | (refine Stp.mk ?_; cbv) | (refine Gen.mk fun r hr => ?_; (try simp only [Dat.ok, Dat.dec, Leaf.ok, Leaf.val, Z0, Z1, Z2, Z3, Z4, Z5, Z6, Z7, val_sl, val_nil] at hr); cbv) | exact trivial | rfl | refine Both.mk ?_ ?_ | (refine Imp.mk fun h => ?_; (try dsimp only at h); (try simp only [nc, Int.toNat_natCast, ne_eq, zz] at h); (try simp only [nc] at h)) | refine Ob.mk ?_ ?_ | refine Chk.mk (by kernel_rfl) ?_ | refine Eq'.mk ?_ | (refine AllN.mk fun i hi => ?_; cbv) | (refine AllC.mk fun c hc hcm => ?_; (try dsimp only at hc); cbv) | (refine AllS.mk fun r hr => ?_; (try simp only [Dat.ok, Dat.dec, Leaf.ok, Leaf.val, Z0, Z1, Z2, Z3, Z4, Z5, Z6, Z7, val_sl] at hr); cbv)
    all_goals fail
  cbv
  repeat' first | (refine Stp.mk ?_; cbv) | (refine Gen.mk fun r hr => ?_; (try simp only [Dat.ok, Dat.dec, Leaf.ok, Leaf.val, Z0, Z1, Z2, Z3, Z4, Z5, Z6, Z7, val_sl, val_nil] at hr); cbv) | exact trivial | rfl | refine Both.mk ?_ ?_ | (refine Imp.mk fun h => ?_; (try dsimp only at h); (try simp only [nc, Int.toNat_natCast, ne_eq, zz] at h); (try simp only [nc] at h)) | refine Ob.mk ?_ ?_ | refine Chk.mk (by kernel_rfl) ?_ | refine Eq'.mk ?_ | (refine AllN.mk fun i hi => ?_; cbv) | (refine AllC.mk fun c hc hcm => ?_; (try dsimp only at hc); cbv) | (refine AllS.mk fun r hr => ?_; (try simp only [Dat.ok, Dat.dec, Leaf.ok, Leaf.val, Z0, Z1, Z2, Z3, Z4, Z5, Z6, Z7, val_sl] at hr); cbv)
  refine .now (LoopI.frameC [5, 7, 24, 25, 28] (RuX m n.toNat) (fun x => [(24, .i .i64 fun _ => x.k)]) (fun x => [(0, .blk (mdA 4 fun _ => x.m)), (4, psO (fun _ => x.m.parts.length) fun _ => x.m.parts)]) [4, 5, 6, 7, 8] (fun x => n.toNat - x.k)
    ⟨0, m, Nat.zero_le _, hm, by rw [Nat.sub_zero]⟩ rfl (fun _ => rfl) ?_ ?_ fun ⟨k, m', hk, hm', he⟩ => ?_)
  · cbv
    repeat' first | (refine Stp.mk ?_; cbv) | (refine Gen.mk fun r hr => ?_; (try simp only [Dat.ok, Dat.dec, Leaf.ok, Leaf.val, Z0, Z1, Z2, Z3, Z4, Z5, Z6, Z7, val_sl, val_nil] at hr); cbv) | exact trivial | rfl | refine Both.mk ?_ ?_ | (refine Imp.mk fun h => ?_; (try dsimp only at h); (try simp only [nc, Int.toNat_natCast, ne_eq, zz] at h); (try simp only [nc] at h)) | refine Ob.mk ?_ ?_ | refine Chk.mk (by kernel_rfl) ?_ | refine Eq'.mk ?_ | (refine AllN.mk fun i hi => ?_; cbv) | (refine AllC.mk fun c hc hcm => ?_; (try dsimp only at hc); cbv) | (refine AllS.mk fun r hr => ?_; (try simp only [Dat.ok, Dat.dec, Leaf.ok, Leaf.val, Z0, Z1, Z2, Z3, Z4, Z5, Z6, Z7, val_sl] at hr); cbv)
    all_goals fail
  · cbv
    repeat' first | (refine Stp.mk ?_; cbv) | (refine Gen.mk fun r hr => ?_; (try simp only [Dat.ok, Dat.dec, Leaf.ok, Leaf.val, Z0, Z1, Z2, Z3, Z4, Z5, Z6, Z7, val_sl, val_nil] at hr); cbv) | exact trivial | rfl | refine Both.mk ?_ ?_ | (refine Imp.mk fun h => ?_; (try dsimp only at h); (try simp only [nc, Int.toNat_natCast, ne_eq, zz] at h); (try simp only [nc] at h)) | refine Ob.mk ?_ ?_ | refine Chk.mk (by kernel_rfl) ?_ | refine Eq'.mk ?_ | (refine AllN.mk fun i hi => ?_; cbv) | (refine AllC.mk fun c hc hcm => ?_; (try dsimp only at hc); cbv) | (refine AllS.mk fun r hr => ?_; (try simp only [Dat.ok, Dat.dec, Leaf.ok, Leaf.val, Z0, Z1, Z2, Z3, Z4, Z5, Z6, Z7, val_sl] at hr); cbv)
    all_goals fail
  have tk : ∀ R2, tickV m' = R2 → R2.2 = 0 → mchkV R2.1 = 0 := fun R2 h h2 => by
    subst h
    exact mchk_iff.2 (tick_ok (mchk_iff.1 hm') h2).1
  have st : ∀ R2, tickV m' = R2 → k < n.toNat → ticksV (n.toNat - k) m' = if R2.2 = 0 then ticksV (n.toNat - (k + 1)) R2.1 else (zM, R2.2) := fun R2 h h2 => by
    subst h
    rw [show n.toNat - k = (n.toNat - (k + 1)) + 1 by omega, ticksV]
  cbv
  repeat' first | (refine Stp.mk ?_; cbv) | (refine Gen.mk fun r hr => ?_; (try simp only [Dat.ok, Dat.dec, Leaf.ok, Leaf.val, Z0, Z1, Z2, Z3, Z4, Z5, Z6, Z7, val_sl, val_nil] at hr); cbv) | exact trivial | rfl | refine Both.mk ?_ ?_ | (refine Imp.mk fun h => ?_; (try dsimp only at h); (try simp only [nc, Int.toNat_natCast, ne_eq, zz] at h); (try simp only [nc] at h)) | refine Ob.mk ?_ ?_ | refine Chk.mk (by kernel_rfl) ?_ | refine Eq'.mk ?_ | (refine AllN.mk fun i hi => ?_; cbv) | (refine AllC.mk fun c hc hcm => ?_; (try dsimp only at hc); cbv) | (refine AllS.mk fun r hr => ?_; (try simp only [Dat.ok, Dat.dec, Leaf.ok, Leaf.val, Z0, Z1, Z2, Z3, Z4, Z5, Z6, Z7, val_sl] at hr); cbv)
  · have h9 : k < n.toNat := by
      have h9 : (k : Int) < n := h
      omega
    have st2 := fun R2 h => st R2 h h9
    refine TkI.mk m' hm' rfl ?_ ?_ fun R2 hR2 => ?_
    · cbv
      repeat' first | (refine Stp.mk ?_; cbv) | (refine Gen.mk fun r hr => ?_; (try simp only [Dat.ok, Dat.dec, Leaf.ok, Leaf.val, Z0, Z1, Z2, Z3, Z4, Z5, Z6, Z7, val_sl, val_nil] at hr); cbv) | exact trivial | rfl | refine Both.mk ?_ ?_ | (refine Imp.mk fun h => ?_; (try dsimp only at h); (try simp only [nc, Int.toNat_natCast, ne_eq, zz] at h); (try simp only [nc] at h)) | refine Ob.mk ?_ ?_ | refine Chk.mk (by kernel_rfl) ?_ | refine Eq'.mk ?_ | (refine AllN.mk fun i hi => ?_; cbv) | (refine AllC.mk fun c hc hcm => ?_; (try dsimp only at hc); cbv) | (refine AllS.mk fun r hr => ?_; (try simp only [Dat.ok, Dat.dec, Leaf.ok, Leaf.val, Z0, Z1, Z2, Z3, Z4, Z5, Z6, Z7, val_sl] at hr); cbv)
    · cbv
      repeat' first | (refine Stp.mk ?_; cbv) | (refine Gen.mk fun r hr => ?_; (try simp only [Dat.ok, Dat.dec, Leaf.ok, Leaf.val, Z0, Z1, Z2, Z3, Z4, Z5, Z6, Z7, val_sl, val_nil] at hr); cbv) | exact trivial | rfl | refine Both.mk ?_ ?_ | (refine Imp.mk fun h => ?_; (try dsimp only at h); (try simp only [nc, Int.toNat_natCast, ne_eq, zz] at h); (try simp only [nc] at h)) | refine Ob.mk ?_ ?_ | refine Chk.mk (by kernel_rfl) ?_ | refine Eq'.mk ?_ | (refine AllN.mk fun i hi => ?_; cbv) | (refine AllC.mk fun c hc hcm => ?_; (try dsimp only at hc); cbv) | (refine AllS.mk fun r hr => ?_; (try simp only [Dat.ok, Dat.dec, Leaf.ok, Leaf.val, Z0, Z1, Z2, Z3, Z4, Z5, Z6, Z7, val_sl] at hr); cbv)
      all_goals fail
    · cbv
      repeat' first | (refine Stp.mk ?_; cbv) | (refine Gen.mk fun r hr => ?_; (try simp only [Dat.ok, Dat.dec, Leaf.ok, Leaf.val, Z0, Z1, Z2, Z3, Z4, Z5, Z6, Z7, val_sl, val_nil] at hr); cbv) | exact trivial | rfl | refine Both.mk ?_ ?_ | (refine Imp.mk fun h => ?_; (try dsimp only at h); (try simp only [nc, Int.toNat_natCast, ne_eq, zz] at h); (try simp only [nc] at h)) | refine Ob.mk ?_ ?_ | refine Chk.mk (by kernel_rfl) ?_ | refine Eq'.mk ?_ | (refine AllN.mk fun i hi => ?_; cbv) | (refine AllC.mk fun c hc hcm => ?_; (try dsimp only at hc); cbv) | (refine AllS.mk fun r hr => ?_; (try simp only [Dat.ok, Dat.dec, Leaf.ok, Leaf.val, Z0, Z1, Z2, Z3, Z4, Z5, Z6, Z7, val_sl] at hr); cbv)
      all_goals first
        | (have h8 : ¬ R2.2 = 0 := by assumption
           refine fin0 _ _ _ ?_
           rw [eR, he, st2 R2 hR2, if_neg h8])
        | (show InR ((k : Int) + 1); unfold InR; omega)
        | (have h8 : R2.2 = 0 := by assumption
           refine ⟨⟨k + 1, R2.1, by omega, tk R2 hR2 h8, by rw [he, st2 R2 hR2, if_pos h8]⟩, ?_, ?_, rfl, by (try dsimp only); omega⟩
           · cbv
             repeat' first | (refine Stp.mk ?_; cbv) | (refine Gen.mk fun r hr => ?_; (try simp only [Dat.ok, Dat.dec, Leaf.ok, Leaf.val, Z0, Z1, Z2, Z3, Z4, Z5, Z6, Z7, val_sl, val_nil] at hr); cbv) | exact trivial | rfl | refine Both.mk ?_ ?_ | (refine Imp.mk fun h => ?_; (try dsimp only at h); (try simp only [nc, Int.toNat_natCast, ne_eq, zz] at h); (try simp only [nc] at h)) | refine Ob.mk ?_ ?_ | refine Chk.mk (by kernel_rfl) ?_ | refine Eq'.mk ?_ | (refine AllN.mk fun i hi => ?_; cbv) | (refine AllC.mk fun c hc hcm => ?_; (try dsimp only at hc); cbv) | (refine AllS.mk fun r hr => ?_; (try simp only [Dat.ok, Dat.dec, Leaf.ok, Leaf.val, Z0, Z1, Z2, Z3, Z4, Z5, Z6, Z7, val_sl] at hr); cbv)
           · cbv
             repeat' first | (refine Stp.mk ?_; cbv) | (refine Gen.mk fun r hr => ?_; (try simp only [Dat.ok, Dat.dec, Leaf.ok, Leaf.val, Z0, Z1, Z2, Z3, Z4, Z5, Z6, Z7, val_sl, val_nil] at hr); cbv) | exact trivial | rfl | refine Both.mk ?_ ?_ | (refine Imp.mk fun h => ?_; (try dsimp only at h); (try simp only [nc, Int.toNat_natCast, ne_eq, zz] at h); (try simp only [nc] at h)) | refine Ob.mk ?_ ?_ | refine Chk.mk (by kernel_rfl) ?_ | refine Eq'.mk ?_ | (refine AllN.mk fun i hi => ?_; cbv) | (refine AllC.mk fun c hc hcm => ?_; (try dsimp only at hc); cbv) | (refine AllS.mk fun r hr => ?_; (try simp only [Dat.ok, Dat.dec, Leaf.ok, Leaf.val, Z0, Z1, Z2, Z3, Z4, Z5, Z6, Z7, val_sl] at hr); cbv)
             all_goals fail)
        | fail
  · have h9 : n.toNat ≤ k := by
      have h9 : n ≤ (k : Int) := h
      omega
    refine fin1 m' _ _ _ _ _ ?_
    rw [eR, he, show n.toNat - k = 0 by omega, ticksV]
def runC_R (r : Th (Module × Int)) : AV := .tup [.agg [.i .i64 fun _ => (r ()).1.table.frame, Leaf.av fun _ => (r ()).1.table.windows, Leaf.av fun _ => (r ()).1.parts, Leaf.av fun _ => (r ()).1.wires, .i .i64 fun _ => (r ()).1.now, .i .i64 fun _ => (r ()).1.lost], .i .i64 fun _ => (r ()).2]
def runC_P (m : Module) (n : Int) : Prop := mchkC_P m
def runC_D : Det := fun A => match A with
  | [.agg m, .i .i64 n] => some (fun _ => Dat.ok Module m ∧ runC_P (Dat.dec m) (n ()), runC_R fun _ => runPV (Dat.dec m) (n ()))
  | _ => none
theorem runC_vc (m : Module) (n : Int) (hp : mchkC_P m) : FnOk Try.prog 18 [.agg (Dat.enc fun _ => m), .i .i64 fun _ => n] [] (outA (runC_R fun _ => runPV m n) []) := by
  refine FnOk.froz (runo_vc m n hp _ rfl) rfl (q := _) (d := _) rfl (by intro p hp; repeat (first | (cases hp; done) | (rcases List.mem_cons.1 hp with rfl | hp; · exact Nat.le_refl _))) rfl ?_
  cbv
  repeat' first | (refine Stp.mk ?_; cbv) | (refine Gen.mk fun r hr => ?_; (try simp only [Dat.ok, Dat.dec, Leaf.ok, Leaf.val, Z0, Z1, Z2, Z3, Z4, Z5, Z6, Z7, val_sl, val_nil] at hr); cbv) | exact trivial | rfl | refine Both.mk ?_ ?_ | (refine Imp.mk fun h => ?_; (try dsimp only at h); (try simp only [nc, Int.toNat_natCast, ne_eq, zz] at h); (try simp only [nc] at h)) | refine Ob.mk ?_ ?_ | refine Chk.mk (by kernel_rfl) ?_ | refine Eq'.mk ?_ | (refine AllN.mk fun i hi => ?_; cbv) | (refine AllC.mk fun c hc hcm => ?_; (try dsimp only at hc); cbv) | (refine AllS.mk fun r hr => ?_; (try simp only [Dat.ok, Dat.dec, Leaf.ok, Leaf.val, Z0, Z1, Z2, Z3, Z4, Z5, Z6, Z7, val_sl] at hr); cbv)
  all_goals fail
theorem runC_ok : PcOk Try.prog 18 (detPC runC_D) := det_okA fun A p r h hp0 => by
  unfold runC_D at h
  split at h
  · rename_i m n
    cases h
    obtain ⟨g0, hp⟩ := hp0
    exact ⟨rfl, FnOk.pre (A' := [.agg (Dat.enc fun _ => (Dat.dec m : Module)), .i .i64 fun _ => n ()]) (runC_vc (Dat.dec m) (n ()) hp) (.mk (Dat.hle _ g0) (.mk (.mk (.mk rfl) (.mk rfl)) (trivial)))⟩
  · cases h
noncomputable def cTi : FuncId → Con := fun f => match f with
  | 18 => pureCon (detPC runC_D)
  | _ => fun _ _ _ => Bad 1001
theorem cTi_ok : ConOk Try.prog cTi := fun f A H K h => by
  unfold cTi at h
  split at h
  · exact ⟨⟨Try.f18, Try.func18, by kernel_rfl, by kernel_rfl⟩, pureCon_ok runC_ok h⟩
  · cases h
def tickC_R (r : Th (Module × Int)) : AV := .tup [.agg [.i .i64 fun _ => (r ()).1.table.frame, Leaf.av fun _ => (r ()).1.table.windows, Leaf.av fun _ => (r ()).1.parts, Leaf.av fun _ => (r ()).1.wires, .i .i64 fun _ => (r ()).1.now, .i .i64 fun _ => (r ()).1.lost], .i .i64 fun _ => (r ()).2]
def tickC_S (m : Module) : Module × Int := runPV m 1
def tickC_P (m : Module) : Prop := mchkC_P m
def tickC_D : Det := fun A => match A with
  | [.agg m] => some (fun _ => Dat.ok Module m ∧ tickC_P (Dat.dec m), tickC_R fun _ => tickC_S (Dat.dec m))
  | _ => none
set_option maxRecDepth 100000 in
set_option maxHeartbeats 4000000 in
theorem tickC_vc (m : Module) (hp : tickC_P m) : FnOk Try.prog 9 [.agg (Dat.enc fun _ => m)] [] (outA (tickC_R fun _ => tickC_S m) []) := by
  refine fn_ok envOk zl cTi_ok noDraws_ok (keep := [0, 1, 2, 3]) Try.func9 rfl ?_
  have hp' : mchkC_P m := hp
  cbv
  repeat' first | (refine Stp.mk ?_; cbv) | (refine Gen.mk fun r hr => ?_; (try simp only [Dat.ok, Dat.dec, Leaf.ok, Leaf.val, Z0, Z1, Z2, Z3, Z4, Z5, Z6, Z7, val_sl, val_nil] at hr); cbv) | exact trivial | rfl | refine Both.mk ?_ ?_ | (refine Imp.mk fun h => ?_; (try dsimp only at h); (try simp only [nc, Int.toNat_natCast, ne_eq, zz] at h); (try simp only [nc] at h)) | refine Ob.mk ?_ ?_ | refine Chk.mk (by kernel_rfl) ?_ | refine Eq'.mk ?_ | (refine AllN.mk fun i hi => ?_; cbv) | (refine AllC.mk fun c hc hcm => ?_; (try dsimp only at hc); cbv) | (refine AllS.mk fun r hr => ?_; (try simp only [Dat.ok, Dat.dec, Leaf.ok, Leaf.val, Z0, Z1, Z2, Z3, Z4, Z5, Z6, Z7, val_sl] at hr); cbv)
  all_goals ((try dsimp only at *); (try simp only [nc, Int.toNat_natCast, ne_eq, zz] at *); (try simp only [nc] at *))
  all_goals try simp only [Dat.dec, Leaf.val, Z0, Z1, Z2, Z3, Z4, Z5, Z6, Z7, val_sl] at *
  all_goals first
    | exact ⟨Dat.hok fun _ => m, hp'⟩
    | exact rfl
    | fail
theorem tickC_ok : PcOk Try.prog 9 (detPC tickC_D) := det_okA fun A p r h hp0 => by
  unfold tickC_D at h
  split at h
  · rename_i m
    cases h
    obtain ⟨g0, hp⟩ := hp0
    exact ⟨rfl, FnOk.pre (A' := [.agg (Dat.enc fun _ => (Dat.dec m : Module))]) (tickC_vc (Dat.dec m) hp) (.mk (Dat.hle _ g0) (trivial))⟩
  · cases h

end Go.Proofs.Ytbnpacdkllmblaa
