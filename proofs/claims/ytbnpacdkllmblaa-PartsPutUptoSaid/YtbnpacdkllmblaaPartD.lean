/- slices.Delete of numbers of a box, that may be empty: walked. -/
import Derived.Test.YtbnpacdkllmblaaPartS
import Derived.Test.YtbnpacdkllmblaaPreL
import Derived.Test.YtbnpacdkllmblaaAbsG4
set_option linter.all false
namespace Go.Proofs.Ytbnpacdkllmblaa
open Go Go.Abs

def dlIntd : FuncId → Option Dt := fun f => match f with
  | _ => none
theorem dlIntd_ok : DetOk Try.prog dlIntd := fun f d h => by
  unfold dlIntd at h
  split at h
  · cases h
def dlInt_P (l : List Int) (lo : Int) (up : Int) : Prop := 0 ≤ lo ∧ lo ≤ up ∧ up ≤ l.length ∧ 0 < l.length ∧ l.length ≤ 4611686018427387903
def dlInt_F (l : List Int) (lo : Int) (up : Int) : List Int := delU l lo.toNat up.toNat
def dlInt_N (l : List Int) (lo : Int) (up : Int) : Nat := (delU l lo.toNat up.toNat).length
def dlInt_S : OwnS Int := { pre := fun r l => match r with | [.i .i64 lo, .i .i64 up] => dlInt_P l (lo ()) (up ()) | _ => False, fin := fun r l => match r with | [.i .i64 lo, .i .i64 up] => dlInt_F l (lo ()) (up ()) | _ => l, res := some (fun r l => match r with | [.i .i64 lo, .i .i64 up] => dlInt_N l (lo ()) (up ()) | _ => 0), kl := true, ne := true }
noncomputable def dlInt_K : Con := ownCon Int 3 dlInt_S
set_option maxRecDepth 100000 in
set_option maxHeartbeats 4000000 in
theorem dlInt_vc (l : List Int) (lo : Int) (up : Int) (hp : dlInt_P l lo up) : FnOk Try.prog 47 [.nn 0 fun _ => l.length, .i .i64 fun _ => lo, .i .i64 fun _ => up] [vecO 3 fun _ => l] (outLe 1 (.own 0 fun _ => dlInt_N l lo up) [vecO 3 fun _ => dlInt_F l lo up] [0]) := by
  refine fn_ok envOk zl noCon_ok (draws_ok envOk zl dlIntd_ok mixed) (keep := [0, 1, 2, 6, 7, 16]) Try.func47 rfl ?_
  obtain ⟨p1, p2, p3, p4, p5⟩ : 0 ≤ lo ∧ lo ≤ up ∧ up ≤ l.length ∧ 0 < l.length ∧ l.length ≤ 4611686018427387903 := hp
  have hdl : (delU l lo.toNat up.toNat).length = lo.toNat + (l.length - up.toNat) := delU_len (by omega) (by omega)
  cbv
  repeat' first | (show Stp _; exfalso; first | omega | (exact h ‹_›) | (exact absurd ‹_› h) | (exact Bool.false_ne_true (h.symm.trans (show _ = true by assumption)))) | (refine Stp.mk ?_; cbv) | (refine Gen.mk fun r hr => ?_; (try simp only [Dat.ok, Dat.dec, Leaf.ok, Leaf.val, Z0, Z1, Z2, Z3, Z4, Z5, Z6, Z7, val_sl, val_nil] at hr); cbv) | exact trivial | rfl | refine Both.mk ?_ ?_ | (refine Imp.mk fun h => ?_; (try dsimp only at h); (try simp only [nc, Int.toNat_natCast, ne_eq, zz] at h); (try simp only [nc] at h)) | refine Ob.mk ?_ ?_ | refine Chk.mk (by kernel_rfl) ?_ | refine Eq'.mk ?_ | (refine AllN.mk fun i hi => ?_; cbv) | (refine AllC.mk fun c hc hcm => ?_; (try dsimp only at hc); cbv) | (refine AllS.mk fun r hr => ?_; (try simp only [Dat.ok, Dat.dec, Leaf.ok, Leaf.val, Z0, Z1, Z2, Z3, Z4, Z5, Z6, Z7, val_sl] at hr); cbv)
  all_goals ((try dsimp only at *); (try simp only [nc, Int.toNat_natCast, ne_eq, zz] at *); (try simp only [nc] at *))
  all_goals try rw [nc] at *
  all_goals first
    | omega
    | (unfold InR; omega)
    | (have e : delU l lo.toNat up.toNat = l := by
         have : lo = up := by omega
         subst this; exact delU_same l _
       first
         | (show l.length = (delU l lo.toNat up.toNat).length; rw [e])
         | (have e2 : dlInt_F l lo up = l := e
            rw [e2]))
    | (show _ = (delU l lo.toNat up.toNat).length; rw [hdl]; omega)
    | (have e3 : dlInt_F l lo up = delU l lo.toNat up.toNat := rfl
       have e4 : ((l.length : Int) - up).toNat = l.length - up.toNat := by omega
       have e5 : lo.toNat + ((l.length : Int) - up).toNat = lo.toNat + (l.length - up.toNat) := by omega
       rw [e3, delU_get (by omega) (by omega) (by omega)]
       try rw [e4]
       all_goals (cases decide (lo.toNat ≤ i ∧ i < lo.toNat + (l.length - up.toNat)) <;> rfl))
    | fail
theorem dlInt_ne (rest : List AV) (d : List Int) (_ : dlInt_S.ne = true) (hp : dlInt_S.pre rest d) : 0 < d.length := by
  have hp : (match (generalizing := false) rest with | [.i .i64 lo, .i .i64 up] => dlInt_P d (lo ()) (up ()) | _ => False) := hp
  split at hp
  · unfold dlInt_P at hp; omega
  · cases hp
theorem dlInt_ok {A : List AV} {H : Hp} {K : Kont} (h : dlInt_K A H K) : FnOk Try.prog 47 A H K := ownCon_ok dlInt_ne (fun rest d _ hp => by
  have hp : (match (generalizing := false) rest with | [.i .i64 lo, .i .i64 up] => dlInt_P d (lo ()) (up ()) | _ => False) := hp
  split at hp
  · rename_i lo up _ _; exact dlInt_vc d (lo ()) (up ()) hp
  · cases hp) h
theorem dlInt_okO : DtOk Try.prog 47 (.o (ownDet Int 3 dlInt_S)) := ownDet_ok dlInt_ne (fun rest d _ hp => by
  have hp : (match (generalizing := false) rest with | [.i .i64 lo, .i .i64 up] => dlInt_P d (lo ()) (up ()) | _ => False) := hp
  split at hp
  · rename_i lo up _ _; exact dlInt_vc d (lo ()) (up ()) hp
  · cases hp)
def dlEd : FuncId → Option Dt := fun f => match f with
  | _ => none
theorem dlEd_ok : DetOk Try.prog dlEd := fun f d h => by
  unfold dlEd at h
  split at h
  · cases h
def dlE_P (l : List Int) (lo : Int) (up : Int) : Prop := l.length = 0 ∧ lo = 0 ∧ up = 0
def dlE_F (l : List Int) (lo : Int) (up : Int) : List Int := l
def dlE_N (l : List Int) (lo : Int) (up : Int) : Nat := l.length
def dlE_S : OwnS Int := { pre := fun r l => match r with | [.i .i64 lo, .i .i64 up] => dlE_P l (lo ()) (up ()) | _ => False, fin := fun r l => match r with | [.i .i64 lo, .i .i64 up] => dlE_F l (lo ()) (up ()) | _ => l, res := some (fun r l => match r with | [.i .i64 lo, .i .i64 up] => dlE_N l (lo ()) (up ()) | _ => 0), kl := false }
noncomputable def dlE_K : Con := ownCon Int 3 dlE_S
set_option maxRecDepth 100000 in
set_option maxHeartbeats 4000000 in
theorem dlE_vc (l : List Int) (lo : Int) (up : Int) (hp : dlE_P l lo up) : FnOk Try.prog 47 [.own 0 fun _ => l.length, .i .i64 fun _ => lo, .i .i64 fun _ => up] [vecO 3 fun _ => l] (outLe 1 (.own 0 fun _ => dlE_N l lo up) [vecO 3 fun _ => dlE_F l lo up] []) := by
  refine fn_ok envOk zl noCon_ok (draws_ok envOk zl dlEd_ok mixed) (keep := [0, 1, 2, 6, 7, 16]) Try.func47 rfl ?_
  obtain ⟨p1, p2, p3⟩ : l.length = 0 ∧ lo = 0 ∧ up = 0 := hp
  subst p2 p3
  cbv
  repeat' first | (show Stp _; exfalso; first | omega | (exact h ‹_›) | (exact absurd ‹_› h) | (exact Bool.false_ne_true (h.symm.trans (show _ = true by assumption)))) | (refine Stp.mk ?_; cbv) | (refine Gen.mk fun r hr => ?_; (try simp only [Dat.ok, Dat.dec, Leaf.ok, Leaf.val, Z0, Z1, Z2, Z3, Z4, Z5, Z6, Z7, val_sl, val_nil] at hr); cbv) | exact trivial | rfl | refine Both.mk ?_ ?_ | (refine Imp.mk fun h => ?_; (try dsimp only at h); (try simp only [nc, Int.toNat_natCast, ne_eq, zz] at h); (try simp only [nc] at h)) | refine Ob.mk ?_ ?_ | refine Chk.mk (by kernel_rfl) ?_ | refine Eq'.mk ?_ | (refine AllN.mk fun i hi => ?_; cbv) | (refine AllC.mk fun c hc hcm => ?_; (try dsimp only at hc); cbv) | (refine AllS.mk fun r hr => ?_; (try simp only [Dat.ok, Dat.dec, Leaf.ok, Leaf.val, Z0, Z1, Z2, Z3, Z4, Z5, Z6, Z7, val_sl] at hr); cbv)
  all_goals ((try dsimp only at *); (try simp only [nc, Int.toNat_natCast, ne_eq, zz] at *); (try simp only [nc] at *))
  all_goals try rw [nc] at *
  all_goals first
    | omega
    | exact absurd trivial (by assumption)
    | exact ⟨by omega, by omega⟩
    | exact ⟨by omega, by omega, by omega⟩
    | (exfalso; omega)
    | (exfalso; exact absurd rfl (by assumption))
    | rfl
    | (show l.length = 0; exact p1)
    | fail
theorem dlE_ok {A : List AV} {H : Hp} {K : Kont} (h : dlE_K A H K) : FnOk Try.prog 47 A H K := ownCon_ok (fun _ _ h => by cases h) (fun rest d _ hp => by
  have hp : (match (generalizing := false) rest with | [.i .i64 lo, .i .i64 up] => dlE_P d (lo ()) (up ()) | _ => False) := hp
  split at hp
  · rename_i lo up _ _; exact dlE_vc d (lo ()) (up ()) hp
  · cases hp) h
theorem dlE_okO : DtOk Try.prog 47 (.o (ownDet Int 3 dlE_S)) := ownDet_ok (fun _ _ h => by cases h) (fun rest d _ hp => by
  have hp : (match (generalizing := false) rest with | [.i .i64 lo, .i .i64 up] => dlE_P d (lo ()) (up ()) | _ => False) := hp
  split at hp
  · rename_i lo up _ _; exact dlE_vc d (lo ()) (up ()) hp
  · cases hp)

end Go.Proofs.Ytbnpacdkllmblaa
