/- task.Check. -/
import Derived.Test.YtnjngpjkhddnfaaGreatDoorTy
set_option linter.all false
namespace Go.Proofs.YtnjngpjkhddnfaaGreatDoor
open Go Go.Abs

def okT (t : Task) : Bool := decide (1 ≤ t.every ∧ t.every ≤ 10000 ∧ 1 ≤ t.due ∧ t.due ≤ t.every ∧ 1 ≤ t.long ∧ t.long ≤ t.due)
def tchkV (l : List Task) : Int := if 16 < l.length then 2 else if l.all okT = true then 0 else 4
theorem okT_iff {t : Task} : okT t = true ↔ (1 ≤ t.every ∧ t.every ≤ 10000 ∧ 1 ≤ t.due ∧ t.due ≤ t.every ∧ 1 ≤ t.long ∧ t.long ≤ t.due) := by simp [okT]
theorem tchk_iff {l : List Task} : tchkV l = 0 ↔ l.length ≤ 16 ∧ l.all okT = true := by
 unfold tchkV
 by_cases h1 : 16 < l.length
 · rw [if_pos h1]; constructor
   · intro h; cases h
   · intro h; omega
 · rw [if_neg h1]
   by_cases h2 : l.all okT = true
   · rw [if_pos h2]; exact ⟨fun _ => ⟨by omega, h2⟩, fun _ => rfl⟩
   · rw [if_neg h2]; constructor
     · intro h; cases h
     · intro h; exact absurd h.2 h2
structure TkX (l : List Task) where
 k : Nat
 hk : k ≤ l.length
 ha : (l.take k).all okT = true
theorem tk_take {l : List Task} {k : Nat} (hk : k < l.length) (h : (l.take k).all okT = true) (h2 : okT (l.getD k Dat.d0) = true) : (l.take (k + 1)).all okT = true := by
 rw [List.take_add_one, List.getElem?_eq_getElem hk, List.all_append, h]
 rw [List.getD_eq_getElem?_getD, List.getElem?_eq_getElem hk] at h2
 simpa using h2
theorem tk_get {l : List Task} {k : Nat} (hk : k < l.length) (h : l.all okT = true) : okT (l.getD k Dat.d0) = true := by
 rw [List.getD_eq_getElem?_getD, List.getElem?_eq_getElem hk]
 exact List.all_eq_true.1 h _ (List.getElem_mem hk)
def tchk_R (r : Th (Int)) : AV := .i .i64 fun _ => (r ())
def tchk_P (l : (List Task)) : Prop := l.length ≤ 9223372036854775807
def tchk_D : Det := fun A => match A with
 | [l] => some (fun _ => Leaf.ok (List Task) l ∧ tchk_P (Leaf.val l), tchk_R fun _ => tchkV (Leaf.val l))
 | _ => none
set_option maxRecDepth 100000 in
set_option maxHeartbeats 4000000 in
theorem tchk_vc (l : (List Task)) (hp : tchk_P l) : FnOk Tryz.prog 36 [Leaf.av fun _ => l] [] (outA (tchk_R fun _ => tchkV l) []) := by
 refine fn_ok envOk zl noCon_ok noDraws_ok (keep := [0, 2, 4, 7, 8, 9, 10, 11, 45]) Tryz.func36 rfl ?_
 have hp' : l.length ≤ 9223372036854775807 := hp
 have fin : ∀ e H kl, tchkV l = e → outA (tchk_R fun _ => tchkV l) [] (.i .i64 fun _ => e) H kl := by
   rintro e H kl rfl
   cbv
   repeat' first | (refine Stp.mk ?_; cbv) | (refine Gen.mk fun r hr => ?_; (try simp only [Dat.ok, Dat.dec, Leaf.ok, Leaf.val, Z0, Z1, Z2, Z3, Z4, Z5, Z6, Z7, val_sl, val_nil] at hr); cbv) | exact trivial | rfl | refine Both.mk ?_ ?_ | (refine Imp.mk fun h => ?_; (try dsimp only at h); (try simp only [nc, Int.toNat_natCast, ne_eq, zz] at h); (try simp only [nc] at h)) | refine Ob.mk ?_ ?_ | refine Chk.mk (by kernel_rfl) ?_ | refine Eq'.mk ?_ | (refine AllN.mk fun i hi => ?_; cbv) | (refine AllC.mk fun c hc hcm => ?_; (try dsimp only at hc); cbv) | (refine AllS.mk fun r hr => ?_; (try simp only [Dat.ok, Dat.dec, Leaf.ok, Leaf.val, Z0, Z1, Z2, Z3, Z4, Z5, Z6, Z7, val_sl] at hr); cbv)
 generalize outA (tchk_R fun _ => tchkV l) [] = K at fin ⊢
 cbv
 repeat' first | (show Stp _; exfalso; first | omega | (exact h ‹_›) | (exact absurd ‹_› h) | (exact Bool.false_ne_true (h.symm.trans (show _ = true by assumption)))) | (refine Stp.mk ?_; cbv) | (refine Gen.mk fun r hr => ?_; (try simp only [Dat.ok, Dat.dec, Leaf.ok, Leaf.val, Z0, Z1, Z2, Z3, Z4, Z5, Z6, Z7, val_sl, val_nil] at hr); cbv) | exact trivial | rfl | refine Both.mk ?_ ?_ | (refine Imp.mk fun h => ?_; (try dsimp only at h); (try simp only [nc, Int.toNat_natCast, ne_eq, zz] at h); (try simp only [nc] at h)) | refine Ob.mk ?_ ?_ | refine Chk.mk (by kernel_rfl) ?_ | refine Eq'.mk ?_ | (refine AllN.mk fun i hi => ?_; cbv) | (refine AllC.mk fun c hc hcm => ?_; (try dsimp only at hc); cbv) | (refine AllS.mk fun r hr => ?_; (try simp only [Dat.ok, Dat.dec, Leaf.ok, Leaf.val, Z0, Z1, Z2, Z3, Z4, Z5, Z6, Z7, val_sl] at hr); cbv)
 all_goals ((try dsimp only at *); (try simp only [nc, Int.toNat_natCast, ne_eq, zz] at *); (try simp only [nc] at *))
 all_goals first
   | (refine fin _ _ _ ?_
      rw [tchkV, if_pos (by omega)])
   | skip
 refine LoopVC.frame [2, 4, 10, 11, 45] (TkX l) (fun x => [(10, .i .i64 fun _ => x.k)]) (fun _ => []) [] (fun x => l.length - x.k) ⟨0, Nat.zero_le _, rfl⟩ rfl (fun _ => rfl) ?_ ?_ fun ⟨k, hk, ha⟩ => ?_
 iterate 2
   · cbv
     repeat' first | (refine Stp.mk ?_; cbv) | (refine Gen.mk fun r hr => ?_; (try simp only [Dat.ok, Dat.dec, Leaf.ok, Leaf.val, Z0, Z1, Z2, Z3, Z4, Z5, Z6, Z7, val_sl, val_nil] at hr); cbv) | exact trivial | rfl | refine Both.mk ?_ ?_ | (refine Imp.mk fun h => ?_; (try dsimp only at h); (try simp only [nc, Int.toNat_natCast, ne_eq, zz] at h); (try simp only [nc] at h)) | refine Ob.mk ?_ ?_ | refine Chk.mk (by kernel_rfl) ?_ | refine Eq'.mk ?_ | (refine AllN.mk fun i hi => ?_; cbv) | (refine AllC.mk fun c hc hcm => ?_; (try dsimp only at hc); cbv) | (refine AllS.mk fun r hr => ?_; (try simp only [Dat.ok, Dat.dec, Leaf.ok, Leaf.val, Z0, Z1, Z2, Z3, Z4, Z5, Z6, Z7, val_sl] at hr); cbv)
 · cbv
   repeat' first | (show Stp _; exfalso; first | omega | (exact h ‹_›) | (exact absurd ‹_› h) | (exact Bool.false_ne_true (h.symm.trans (show _ = true by assumption)))) | (refine Stp.mk ?_; cbv) | (refine Gen.mk fun r hr => ?_; (try simp only [Dat.ok, Dat.dec, Leaf.ok, Leaf.val, Z0, Z1, Z2, Z3, Z4, Z5, Z6, Z7, val_sl, val_nil] at hr); cbv) | exact trivial | rfl | refine Both.mk ?_ ?_ | (refine Imp.mk fun h => ?_; (try dsimp only at h); (try simp only [nc, Int.toNat_natCast, ne_eq, zz] at h); (try simp only [nc] at h)) | refine Ob.mk ?_ ?_ | refine Chk.mk (by kernel_rfl) ?_ | refine Eq'.mk ?_ | (refine AllN.mk fun i hi => ?_; cbv) | (refine AllC.mk fun c hc hcm => ?_; (try dsimp only at hc); cbv) | (refine AllS.mk fun r hr => ?_; (try simp only [Dat.ok, Dat.dec, Leaf.ok, Leaf.val, Z0, Z1, Z2, Z3, Z4, Z5, Z6, Z7, val_sl] at hr); cbv)
   all_goals ((try dsimp only at *); (try simp only [nc, Int.toNat_natCast, ne_eq, zz] at *); (try simp only [nc] at *))
   all_goals try rw [nc] at *
   all_goals first
     | omega
     | (unfold InR; omega)
     | (have hk2 : k < l.length := by omega
        refine fin _ _ _ ?_
        rw [tchkV, if_neg (by omega), if_neg]
        intro hall
        have := okT_iff.1 (tk_get hk2 hall)
        omega)
     | (have hk2 : k < l.length := by omega
        refine ⟨⟨k + 1, by omega, tk_take hk2 ha (okT_iff.2 (by omega))⟩, ?_, ?_, rfl, by (try dsimp only); omega⟩
        · cbv
          repeat' first | (refine Stp.mk ?_; cbv) | (refine Gen.mk fun r hr => ?_; (try simp only [Dat.ok, Dat.dec, Leaf.ok, Leaf.val, Z0, Z1, Z2, Z3, Z4, Z5, Z6, Z7, val_sl, val_nil] at hr); cbv) | exact trivial | rfl | refine Both.mk ?_ ?_ | (refine Imp.mk fun h => ?_; (try dsimp only at h); (try simp only [nc, Int.toNat_natCast, ne_eq, zz] at h); (try simp only [nc] at h)) | refine Ob.mk ?_ ?_ | refine Chk.mk (by kernel_rfl) ?_ | refine Eq'.mk ?_ | (refine AllN.mk fun i hi => ?_; cbv) | (refine AllC.mk fun c hc hcm => ?_; (try dsimp only at hc); cbv) | (refine AllS.mk fun r hr => ?_; (try simp only [Dat.ok, Dat.dec, Leaf.ok, Leaf.val, Z0, Z1, Z2, Z3, Z4, Z5, Z6, Z7, val_sl] at hr); cbv)
        · cbv
          repeat' first | (refine Stp.mk ?_; cbv) | (refine Gen.mk fun r hr => ?_; (try simp only [Dat.ok, Dat.dec, Leaf.ok, Leaf.val, Z0, Z1, Z2, Z3, Z4, Z5, Z6, Z7, val_sl, val_nil] at hr); cbv) | exact trivial | rfl | refine Both.mk ?_ ?_ | (refine Imp.mk fun h => ?_; (try dsimp only at h); (try simp only [nc, Int.toNat_natCast, ne_eq, zz] at h); (try simp only [nc] at h)) | refine Ob.mk ?_ ?_ | refine Chk.mk (by kernel_rfl) ?_ | refine Eq'.mk ?_ | (refine AllN.mk fun i hi => ?_; cbv) | (refine AllC.mk fun c hc hcm => ?_; (try dsimp only at hc); cbv) | (refine AllS.mk fun r hr => ?_; (try simp only [Dat.ok, Dat.dec, Leaf.ok, Leaf.val, Z0, Z1, Z2, Z3, Z4, Z5, Z6, Z7, val_sl] at hr); cbv))
     | (refine fin _ _ _ ?_
        rw [List.take_of_length_le (by omega)] at ha
        rw [tchkV, if_neg (by omega), if_pos ha])
     | fail
theorem tchk_ok : PcOk Tryz.prog 36 (detPC tchk_D) := det_okA fun A p r h hp0 => by
 unfold tchk_D at h
 split at h
 · rename_i l
   cases h
   obtain ⟨g0, hp⟩ := hp0
   exact ⟨rfl, FnOk.pre (A' := [Leaf.av fun _ => (Leaf.val l : (List Task))]) (tchk_vc (Leaf.val l) hp) (.mk (Leaf.hle _ g0) (trivial))⟩
 · cases h

end Go.Proofs.YtnjngpjkhddnfaaGreatDoor
