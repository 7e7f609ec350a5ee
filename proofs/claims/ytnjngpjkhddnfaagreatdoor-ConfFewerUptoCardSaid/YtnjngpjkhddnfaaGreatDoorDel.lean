/- slices.Delete, and slices.Reverse, walked at each type. -/
import Derived.Test.YtnjngpjkhddnfaaGreatDoorAbsG4
import Derived.Test.YtnjngpjkhddnfaaGreatDoorTy
set_option linter.all false
namespace Go.Proofs.YtnjngpjkhddnfaaGreatDoor
open Go Go.Abs

def clWant_R (r : Th ((List Want))) : AV := .own 0 fun _ => (r ()).length
def clWant_H (r : Th ((List Want))) : Hp := [vecO 28 fun _ => (r ())]
def clWant_P (l : (List Want)) : Prop := l.length ≤ 1099511627776
def clWant_C : PC := fun A K => match A with
 | [l] => Ob (fun _ => Leaf.ok (List Want) l ∧ clWant_P (Leaf.val l)) (Gen (α := (List Want)) (fun _ => (Leaf.val l)) fun r => K (clWant_R fun _ => r) (clWant_H fun _ => r))
 | _ => Bad 1002
set_option maxRecDepth 100000 in
set_option maxHeartbeats 4000000 in
theorem clWant_vc (l : (List Want)) (hp : clWant_P l) : FnOk Tryz.prog 7 [Leaf.av fun _ => l] [] (outA (clWant_R fun _ => l) (clWant_H fun _ => l)) := by
 refine fn_ok envOk zl noCon_ok noDraws_ok (keep := [0, 2, 4]) Tryz.func7 rfl ?_
 have hp' : l.length ≤ 1099511627776 := hp
 cbv
 repeat' first | (refine Stp.mk ?_; cbv) | (refine Gen.mk fun r hr => ?_; (try simp only [Dat.ok, Dat.dec, Leaf.ok, Leaf.val, Z0, Z1, Z2, Z3, Z4, Z5, Z6, Z7, val_sl, val_nil] at hr); cbv) | exact trivial | rfl | refine Both.mk ?_ ?_ | (refine Imp.mk fun h => ?_; (try dsimp only at h); (try simp only [nc, Int.toNat_natCast, ne_eq, zz] at h); (try simp only [nc] at h)) | refine Ob.mk ?_ ?_ | refine Chk.mk (by kernel_rfl) ?_ | refine Eq'.mk ?_ | (refine AllN.mk fun i hi => ?_; cbv) | (refine AllC.mk fun c hc hcm => ?_; (try dsimp only at hc); cbv) | (refine AllS.mk fun r hr => ?_; (try simp only [Dat.ok, Dat.dec, Leaf.ok, Leaf.val, Z0, Z1, Z2, Z3, Z4, Z5, Z6, Z7, val_sl] at hr); cbv)
 all_goals ((try dsimp only at *); (try simp only [nc, Int.toNat_natCast, ne_eq, zz] at *); (try simp only [nc] at *))
 all_goals first
   | omega
   | (exact ⟨Nat.le_refl _, trivial, by omega, by omega⟩)
   | (simp only [Nat.zero_add, Nat.sub_zero, Nat.not_lt_zero, decide_false, cond_false]; done)
   | (simp_all; done)
   | fail
theorem clWant_ok : PcOk Tryz.prog 7 (clWant_C) := fun A K h => by
 unfold clWant_C at h
 split at h
 · rename_i l
   cases h with
   | mk h1 h2 =>
     obtain ⟨g0, hp⟩ := h1
     refine FnOk.pre ?_ (A' := [Leaf.av fun _ => (Leaf.val l : (List Want))]) (.mk (Leaf.hle _ g0) (trivial))
     exact FnOk.out (K := fun r H _ => K r H) (clWant_vc (Leaf.val l) hp) rfl h2.out
 · cases h
def dlJobd : FuncId → Option Dt := fun f => match f with
 | _ => none
theorem dlJobd_ok : DetOk Tryz.prog dlJobd := fun f d h => by
 unfold dlJobd at h
 split at h
 · cases h
def dlJob_P (l : List PlanJob) (lo : Int) (up : Int) : Prop := 0 ≤ lo ∧ lo ≤ up ∧ up ≤ l.length ∧ 0 < l.length ∧ l.length ≤ 4611686018427387903
def dlJob_F (l : List PlanJob) (lo : Int) (up : Int) : List PlanJob := delU l lo.toNat up.toNat
def dlJob_N (l : List PlanJob) (lo : Int) (up : Int) : Nat := (delU l lo.toNat up.toNat).length
def dlJob_S : OwnS PlanJob := { pre := fun r l => match r with | [.i .i64 lo, .i .i64 up] => dlJob_P l (lo ()) (up ()) | _ => False, fin := fun r l => match r with | [.i .i64 lo, .i .i64 up] => dlJob_F l (lo ()) (up ()) | _ => l, res := some (fun r l => match r with | [.i .i64 lo, .i .i64 up] => dlJob_N l (lo ()) (up ()) | _ => 0), kl := true, ne := true }
noncomputable def dlJob_K : Con := ownCon PlanJob 33 dlJob_S
set_option maxRecDepth 100000 in
set_option maxHeartbeats 4000000 in
theorem dlJob_vc (l : List PlanJob) (lo : Int) (up : Int) (hp : dlJob_P l lo up) : FnOk Tryz.prog 15 [.nn 0 fun _ => l.length, .i .i64 fun _ => lo, .i .i64 fun _ => up] [vecO 33 fun _ => l] (outLe 1 (.own 0 fun _ => dlJob_N l lo up) [vecO 33 fun _ => dlJob_F l lo up] [0]) := by
 refine fn_ok envOk zl noCon_ok (draws_ok envOk zl dlJobd_ok mixed) (keep := [0, 1, 2, 6, 7, 16]) Tryz.func15 rfl ?_
 obtain ⟨p1, p2, p3, p4, p5⟩ : 0 ≤ lo ∧ lo ≤ up ∧ up ≤ l.length ∧ 0 < l.length ∧ l.length ≤ 4611686018427387903 := hp
 have hdl : (delU l lo.toNat up.toNat).length = lo.toNat + (l.length - up.toNat) := delU_len (by omega) (by omega)
 cbv
 repeat' first | (show Stp _; exfalso; first | omega | (exact h ‹_›) | (exact absurd ‹_› h) | (exact Bool.false_ne_true (h.symm.trans (show _ = true by assumption)))) | (refine Stp.mk ?_; cbv) | (refine Gen.mk fun r hr => ?_; (try simp only [Dat.ok, Dat.dec, Leaf.ok, Leaf.val, Z0, Z1, Z2, Z3, Z4, Z5, Z6, Z7, val_sl, val_nil] at hr); cbv) | exact trivial | rfl | refine Both.mk ?_ ?_ | (refine Imp.mk fun h => ?_; (try dsimp only at h); (try simp only [nc, Int.toNat_natCast, ne_eq, zz] at h); (try simp only [nc] at h)) | refine Ob.mk ?_ ?_ | refine Chk.mk (by kernel_rfl) ?_ | refine Eq'.mk ?_ | (refine AllN.mk fun i hi => ?_; cbv) | (refine AllC.mk fun c hc hcm => ?_; (try dsimp only at hc); cbv) | (refine AllS.mk fun r hr => ?_; (try simp only [Dat.ok, Dat.dec, Leaf.ok, Leaf.val, Z0, Z1, Z2, Z3, Z4, Z5, Z6, Z7, val_sl] at hr); cbv)
 all_goals ((try dsimp only at *); (try simp only [nc, Int.toNat_natCast, ne_eq, zz] at *); (try simp only [nc] at *))
 all_goals try rw [nc] at *
 all_goals first
   | omega
   | (unfold InR; omega)
   | (have e : delU l lo.toNat up.toNat = l := by
        have : lo = up := by omega
        subst this; exact delU_same l _
      first
        | (show l.length = (delU l lo.toNat up.toNat).length; rw [e])
        | (have e2 : dlJob_F l lo up = l := e
           rw [e2]))
   | (show _ = (delU l lo.toNat up.toNat).length; rw [hdl]; omega)
   | (have e3 : dlJob_F l lo up = delU l lo.toNat up.toNat := rfl
      have e4 : ((l.length : Int) - up).toNat = l.length - up.toNat := by omega
      have e5 : lo.toNat + ((l.length : Int) - up).toNat = lo.toNat + (l.length - up.toNat) := by omega
      rw [e3, delU_get (by omega) (by omega) (by omega)]
      try rw [e4]
      all_goals (cases decide (lo.toNat ≤ i ∧ i < lo.toNat + (l.length - up.toNat)) <;> rfl))
   | fail
theorem dlJob_ne (rest : List AV) (d : List PlanJob) (_ : dlJob_S.ne = true) (hp : dlJob_S.pre rest d) : 0 < d.length := by
 have hp : (match (generalizing := false) rest with | [.i .i64 lo, .i .i64 up] => dlJob_P d (lo ()) (up ()) | _ => False) := hp
 split at hp
 · unfold dlJob_P at hp; omega
 · cases hp
theorem dlJob_ok {A : List AV} {H : Hp} {K : Kont} (h : dlJob_K A H K) : FnOk Tryz.prog 15 A H K := ownCon_ok dlJob_ne (fun rest d _ hp => by
 have hp : (match (generalizing := false) rest with | [.i .i64 lo, .i .i64 up] => dlJob_P d (lo ()) (up ()) | _ => False) := hp
 split at hp
 · rename_i lo up _ _; exact dlJob_vc d (lo ()) (up ()) hp
 · cases hp) h

end Go.Proofs.YtnjngpjkhddnfaaGreatDoor
