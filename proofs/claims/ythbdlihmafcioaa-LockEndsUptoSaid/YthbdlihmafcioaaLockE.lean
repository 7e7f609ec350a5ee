/- dutyref.Units: walked. -/
import Derived.Test.YthbdlihmafcioaaLockL
set_option linter.all false
namespace Go.Proofs.Ythbdlihmafcioaa
open Go Go.Abs

def unitA : Int → List Act → List Int
  | _, [] => []
  | i, a :: r => (if a.kind = 1 then List.replicate a.n.toNat i else []) ++ unitA (i + 1) r
theorem unit_len : ∀ {A : List Act} {h : List Int} {b : Bool} {i : Int}, rgtR h b A = true → ((unitA i A).length : Int) = sumN A
  | [], _, _, _, _ => rfl
  | a :: r, h, b, i, hr => by
    rw [unitA, sumN, List.length_append]
    rcases rgt_kind hr with k | k | k
    · obtain ⟨a1, a2, a3⟩ := rgt_run k hr
      have := unit_len (i := i + 1) a3
      rw [if_pos k, if_pos k, List.length_replicate]
      omega
    · have := unit_len (i := i + 1) (rgt_take k hr).2.2
      rw [if_neg (by omega), if_neg (by omega), List.length_nil]
      omega
    · have := unit_len (i := i + 1) (rgt_drop k hr).2.2
      rw [if_neg (by omega), if_neg (by omega), List.length_nil]
      omega
theorem sum_le : ∀ {A : List Act} {h : List Int} {b : Bool}, rgtR h b A = true → sumN A ≤ 100 * A.length
  | [], _, _, _ => by simp [sumN]
  | a :: r, h, b, hr => by
    rw [sumN, List.length_cons]
    rcases rgt_kind hr with k | k | k
    · obtain ⟨a1, a2, a3⟩ := rgt_run k hr
      have := sum_le a3
      rw [if_pos k]; omega
    · have := sum_le (rgt_take k hr).2.2
      rw [if_neg (by omega)]; omega
    · have := sum_le (rgt_drop k hr).2.2
      rw [if_neg (by omega)]; omega
structure UnX (A : List Act) where
  k : Nat
  out : List Int
  hk : k ≤ A.length
  hl : out.length ≤ 100 * k
  he : unitA 0 A = out ++ unitA k (A.drop k)
structure UiX (out : List Int) (k n : Nat) where
  j : Nat
  o2 : List Int
  hj : j ≤ n
  ho : o2 = out ++ List.replicate j (k : Int)
def unitsC_R (r : Th ((List Int))) : AV := .own 0 fun _ => (r ()).length
def unitsC_H (r : Th ((List Int))) : Hp := [vecO 3 fun _ => (r ())]
def unitsC_S (w : Work) : (List Int) := unitA 0 w.acts
def unitsC_P (w : Work) : Prop := w.acts.length ≤ 30 ∧ rgtR [] false w.acts = true
def unitsC_C : PC := fun A K => match A with
  | [.agg w] => Ob (fun _ => Dat.ok Work w ∧ unitsC_P (Dat.dec w)) (Gen (α := (List Int)) (fun _ => unitsC_S (Dat.dec w)) fun r => K (unitsC_R fun _ => r) (unitsC_H fun _ => r))
  | _ => Bad 1002
set_option maxRecDepth 100000 in
set_option maxHeartbeats 4000000 in
theorem unitsC_vc (w : Work) (hp : unitsC_P w) : FnOk Try.prog 10 [.agg (Dat.enc fun _ => w)] [] (outA (unitsC_R fun _ => unitsC_S w) (unitsC_H fun _ => unitsC_S w)) := by
  refine fn_ok envOk zl noCon_ok noDraws_ok (keep := [0, 1, 2, 3, 4, 5, 7, 8, 9, 10, 16, 18, 19, 20]) Try.func10 rfl ?_
  obtain ⟨p1, p2⟩ : w.acts.length ≤ 30 ∧ rgtR [] false w.acts = true := hp
  have fin : ∀ o d (n : Nat) kl H, unitsC_S w = d → n = d.length → outA (unitsC_R fun _ => unitsC_S w) (unitsC_H fun _ => unitsC_S w) (.own 1 fun _ => n) (o :: vecO 3 (fun _ => d) :: H) kl := fun o d n kl H h hn => by
    subst hn
    rw [h]
    cbv
    repeat' first | (refine Stp.mk ?_; cbv) | (refine Gen.mk fun r hr => ?_; (try simp only [Dat.ok, Dat.dec, Leaf.ok, Leaf.val, Act.eta, Work.eta, Locked.eta, val_sl, val_nil] at hr); cbv) | exact trivial | rfl | refine Both.mk ?_ ?_ | (refine Imp.mk fun h => ?_; (try dsimp only at h); (try simp only [nc, Int.toNat_natCast, ne_eq, zz] at h); (try simp only [nc] at h)) | refine Ob.mk ?_ ?_ | refine Chk.mk (by kernel_rfl) ?_ | refine Eq'.mk ?_ | (refine AllN.mk fun i hi => ?_; cbv) | (refine AllC.mk fun c hc hcm => ?_; (try dsimp only at hc); cbv) | (refine AllS.mk fun r hr => ?_; (try simp only [Dat.ok, Dat.dec, Leaf.ok, Leaf.val, Act.eta, Work.eta, Locked.eta, val_sl] at hr); cbv)
  generalize outA (unitsC_R fun _ => unitsC_S w) (unitsC_H fun _ => unitsC_S w) = K at fin ⊢
  cbv
  repeat' first | (show Stp _; exfalso; first | omega | (exact h ‹_›) | (exact absurd ‹_› h) | (exact Bool.false_ne_true (h.symm.trans (show _ = true by assumption)))) | (refine Stp.mk ?_; cbv) | (refine Gen.mk fun r hr => ?_; (try simp only [Dat.ok, Dat.dec, Leaf.ok, Leaf.val, Act.eta, Work.eta, Locked.eta, val_sl, val_nil] at hr); cbv) | exact trivial | rfl | refine Both.mk ?_ ?_ | (refine Imp.mk fun h => ?_; (try dsimp only at h); (try simp only [nc, Int.toNat_natCast, ne_eq, zz] at h); (try simp only [nc] at h)) | refine Ob.mk ?_ ?_ | refine Chk.mk (by kernel_rfl) ?_ | refine Eq'.mk ?_ | (refine AllN.mk fun i hi => ?_; cbv) | (refine AllC.mk fun c hc hcm => ?_; (try dsimp only at hc); cbv) | (refine AllS.mk fun r hr => ?_; (try simp only [Dat.ok, Dat.dec, Leaf.ok, Leaf.val, Act.eta, Work.eta, Locked.eta, val_sl] at hr); cbv)
  all_goals ((try dsimp only at *); (try simp only [nc, Int.toNat_natCast, ne_eq, zz] at *); (try simp only [nc] at *))
  refine LoopVC.frame [3, 4, 5, 9, 10, 16, 18, 19, 20] (UnX w.acts) (fun x => [(9, .i .i64 fun _ => x.k), (3, .own 1 fun _ => x.out.length)]) (fun x => [(1, vecO 3 fun _ => x.out)]) [1] (fun x => w.acts.length - x.k) ⟨0, [], Nat.zero_le _, Nat.zero_le _, by rw [List.drop_zero]; rfl⟩ rfl (fun _ => rfl) ?_ ?_ fun ⟨k, out, hk, hl, he⟩ => ?_
  iterate 2
    · cbv
      repeat' first | (refine Stp.mk ?_; cbv) | (refine Gen.mk fun r hr => ?_; (try simp only [Dat.ok, Dat.dec, Leaf.ok, Leaf.val, Act.eta, Work.eta, Locked.eta, val_sl, val_nil] at hr); cbv) | exact trivial | rfl | refine Both.mk ?_ ?_ | (refine Imp.mk fun h => ?_; (try dsimp only at h); (try simp only [nc, Int.toNat_natCast, ne_eq, zz] at h); (try simp only [nc] at h)) | refine Ob.mk ?_ ?_ | refine Chk.mk (by kernel_rfl) ?_ | refine Eq'.mk ?_ | (refine AllN.mk fun i hi => ?_; cbv) | (refine AllC.mk fun c hc hcm => ?_; (try dsimp only at hc); cbv) | (refine AllS.mk fun r hr => ?_; (try simp only [Dat.ok, Dat.dec, Leaf.ok, Leaf.val, Act.eta, Work.eta, Locked.eta, val_sl] at hr); cbv)
  have n1 := fun h => act_n1 p2 (k := k) h
  cbv
  repeat' first | (show Stp _; exfalso; first | omega | (exact h ‹_›) | (exact absurd ‹_› h) | (exact Bool.false_ne_true (h.symm.trans (show _ = true by assumption)))) | (refine Stp.mk ?_; cbv) | (refine Gen.mk fun r hr => ?_; (try simp only [Dat.ok, Dat.dec, Leaf.ok, Leaf.val, Act.eta, Work.eta, Locked.eta, val_sl, val_nil] at hr); cbv) | exact trivial | rfl | refine Both.mk ?_ ?_ | (refine Imp.mk fun h => ?_; (try dsimp only at h); (try simp only [nc, Int.toNat_natCast, ne_eq, zz] at h); (try simp only [nc] at h)) | refine Ob.mk ?_ ?_ | refine Chk.mk (by kernel_rfl) ?_ | refine Eq'.mk ?_ | (refine AllN.mk fun i hi => ?_; cbv) | (refine AllC.mk fun c hc hcm => ?_; (try dsimp only at hc); cbv) | (refine AllS.mk fun r hr => ?_; (try simp only [Dat.ok, Dat.dec, Leaf.ok, Leaf.val, Act.eta, Work.eta, Locked.eta, val_sl] at hr); cbv)
  all_goals ((try dsimp only at *); (try simp only [nc, Int.toNat_natCast, ne_eq, zz] at *); (try simp only [nc] at *))
  all_goals try rw [nc] at *
  all_goals try first
    | omega
    | (unfold InR; omega)
    | exact ⟨by omega, by omega⟩
    | (refine fin _ out _ _ _ ?_ rfl
       show unitA 0 w.acts = out
       rw [he, List.drop_eq_nil_of_le (by omega), unitA, List.append_nil])
    | (have c0 : k < w.acts.length := by omega
       have c1 : ¬ (w.acts.getD k Dat.d0).kind = 1 := by assumption
       refine ⟨⟨k + 1, out, by omega, by omega, by rw [he, drop_at c0, unitA, if_neg c1, List.nil_append]; rfl⟩, ?_, ?_, rfl, by (try dsimp only); omega⟩
       · cbv
         repeat' first | (refine Stp.mk ?_; cbv) | (refine Gen.mk fun r hr => ?_; (try simp only [Dat.ok, Dat.dec, Leaf.ok, Leaf.val, Act.eta, Work.eta, Locked.eta, val_sl, val_nil] at hr); cbv) | exact trivial | rfl | refine Both.mk ?_ ?_ | (refine Imp.mk fun h => ?_; (try dsimp only at h); (try simp only [nc, Int.toNat_natCast, ne_eq, zz] at h); (try simp only [nc] at h)) | refine Ob.mk ?_ ?_ | refine Chk.mk (by kernel_rfl) ?_ | refine Eq'.mk ?_ | (refine AllN.mk fun i hi => ?_; cbv) | (refine AllC.mk fun c hc hcm => ?_; (try dsimp only at hc); cbv) | (refine AllS.mk fun r hr => ?_; (try simp only [Dat.ok, Dat.dec, Leaf.ok, Leaf.val, Act.eta, Work.eta, Locked.eta, val_sl] at hr); cbv)
       · cbv
         repeat' first | (refine Stp.mk ?_; cbv) | (refine Gen.mk fun r hr => ?_; (try simp only [Dat.ok, Dat.dec, Leaf.ok, Leaf.val, Act.eta, Work.eta, Locked.eta, val_sl, val_nil] at hr); cbv) | exact trivial | rfl | refine Both.mk ?_ ?_ | (refine Imp.mk fun h => ?_; (try dsimp only at h); (try simp only [nc, Int.toNat_natCast, ne_eq, zz] at h); (try simp only [nc] at h)) | refine Ob.mk ?_ ?_ | refine Chk.mk (by kernel_rfl) ?_ | refine Eq'.mk ?_ | (refine AllN.mk fun i hi => ?_; cbv) | (refine AllC.mk fun c hc hcm => ?_; (try dsimp only at hc); cbv) | (refine AllS.mk fun r hr => ?_; (try simp only [Dat.ok, Dat.dec, Leaf.ok, Leaf.val, Act.eta, Work.eta, Locked.eta, val_sl] at hr); cbv))
  have c0 : k < w.acts.length := by omega
  have c1 : (w.acts.getD k Dat.d0).kind = 1 := by assumption
  have c2 := n1 c0 c1
  refine LoopVC.frame [3, 19, 20] (UiX out k (w.acts.getD k Dat.d0).n.toNat) (fun x => [(19, .i .i64 fun _ => x.j), (3, .own 1 fun _ => x.o2.length)]) (fun x => [(1, vecO 3 fun _ => x.o2)]) [1] (fun x => (w.acts.getD k Dat.d0).n.toNat - x.j) ⟨0, out, Nat.zero_le _, by simp⟩ rfl (fun _ => rfl) ?_ ?_ fun ⟨j, o2, hj, ho⟩ => ?_
  iterate 2
    · cbv
      repeat' first | (refine Stp.mk ?_; cbv) | (refine Gen.mk fun r hr => ?_; (try simp only [Dat.ok, Dat.dec, Leaf.ok, Leaf.val, Act.eta, Work.eta, Locked.eta, val_sl, val_nil] at hr); cbv) | exact trivial | rfl | refine Both.mk ?_ ?_ | (refine Imp.mk fun h => ?_; (try dsimp only at h); (try simp only [nc, Int.toNat_natCast, ne_eq, zz] at h); (try simp only [nc] at h)) | refine Ob.mk ?_ ?_ | refine Chk.mk (by kernel_rfl) ?_ | refine Eq'.mk ?_ | (refine AllN.mk fun i hi => ?_; cbv) | (refine AllC.mk fun c hc hcm => ?_; (try dsimp only at hc); cbv) | (refine AllS.mk fun r hr => ?_; (try simp only [Dat.ok, Dat.dec, Leaf.ok, Leaf.val, Act.eta, Work.eta, Locked.eta, val_sl] at hr); cbv)
  have hol : o2.length = out.length + j := by rw [ho, List.length_append, List.length_replicate]
  cbv
  repeat' first | (show Stp _; exfalso; first | omega | (exact h ‹_›) | (exact absurd ‹_› h) | (exact Bool.false_ne_true (h.symm.trans (show _ = true by assumption)))) | (refine Stp.mk ?_; cbv) | (refine Gen.mk fun r hr => ?_; (try simp only [Dat.ok, Dat.dec, Leaf.ok, Leaf.val, Act.eta, Work.eta, Locked.eta, val_sl, val_nil] at hr); cbv) | exact trivial | rfl | refine Both.mk ?_ ?_ | (refine Imp.mk fun h => ?_; (try dsimp only at h); (try simp only [nc, Int.toNat_natCast, ne_eq, zz] at h); (try simp only [nc] at h)) | refine Ob.mk ?_ ?_ | refine Chk.mk (by kernel_rfl) ?_ | refine Eq'.mk ?_ | (refine AllN.mk fun i hi => ?_; cbv) | (refine AllC.mk fun c hc hcm => ?_; (try dsimp only at hc); cbv) | (refine AllS.mk fun r hr => ?_; (try simp only [Dat.ok, Dat.dec, Leaf.ok, Leaf.val, Act.eta, Work.eta, Locked.eta, val_sl] at hr); cbv)
  all_goals ((try dsimp only at *); (try simp only [nc, Int.toNat_natCast, ne_eq, zz] at *); (try simp only [nc] at *))
  all_goals try rw [nc] at *
  all_goals try first
    | omega
    | (unfold InR; omega)
    | exact ⟨by omega, by omega⟩
    | exact ⟨Nat.le_refl _, Nat.le_refl _, by omega, by omega⟩
    | (refine ⟨⟨j + 1, o2 ++ [(k : Int)], by omega, by rw [ho, List.append_assoc, List.replicate_succ']⟩, ?_, ?_, rfl, by (try dsimp only); omega⟩
       · cbv
         repeat' first | (refine Stp.mk ?_; cbv) | (refine Gen.mk fun r hr => ?_; (try simp only [Dat.ok, Dat.dec, Leaf.ok, Leaf.val, Act.eta, Work.eta, Locked.eta, val_sl, val_nil] at hr); cbv) | exact trivial | rfl | refine Both.mk ?_ ?_ | (refine Imp.mk fun h => ?_; (try dsimp only at h); (try simp only [nc, Int.toNat_natCast, ne_eq, zz] at h); (try simp only [nc] at h)) | refine Ob.mk ?_ ?_ | refine Chk.mk (by kernel_rfl) ?_ | refine Eq'.mk ?_ | (refine AllN.mk fun i hi => ?_; cbv) | (refine AllC.mk fun c hc hcm => ?_; (try dsimp only at hc); cbv) | (refine AllS.mk fun r hr => ?_; (try simp only [Dat.ok, Dat.dec, Leaf.ok, Leaf.val, Act.eta, Work.eta, Locked.eta, val_sl] at hr); cbv)
         all_goals first | (simp; done) | fail
       · cbv
         repeat' first | (refine Stp.mk ?_; cbv) | (refine Gen.mk fun r hr => ?_; (try simp only [Dat.ok, Dat.dec, Leaf.ok, Leaf.val, Act.eta, Work.eta, Locked.eta, val_sl, val_nil] at hr); cbv) | exact trivial | rfl | refine Both.mk ?_ ?_ | (refine Imp.mk fun h => ?_; (try dsimp only at h); (try simp only [nc, Int.toNat_natCast, ne_eq, zz] at h); (try simp only [nc] at h)) | refine Ob.mk ?_ ?_ | refine Chk.mk (by kernel_rfl) ?_ | refine Eq'.mk ?_ | (refine AllN.mk fun i hi => ?_; cbv) | (refine AllC.mk fun c hc hcm => ?_; (try dsimp only at hc); cbv) | (refine AllS.mk fun r hr => ?_; (try simp only [Dat.ok, Dat.dec, Leaf.ok, Leaf.val, Act.eta, Work.eta, Locked.eta, val_sl] at hr); cbv)
         all_goals ((try dsimp only at *); (try simp only [nc, Int.toNat_natCast, ne_eq, zz] at *); (try simp only [nc] at *))
         all_goals first | (simp; done) | exact snocO (by assumption) | fail)
    | (have ej : j = (w.acts.getD k Dat.d0).n.toNat := by omega
       refine ⟨⟨k + 1, o2, by omega, by omega, by rw [he, drop_at c0, unitA, if_pos c1, ho, ej, List.append_assoc]; rfl⟩, ?_, ?_, rfl, by (try dsimp only); omega⟩
       · cbv
         repeat' first | (refine Stp.mk ?_; cbv) | (refine Gen.mk fun r hr => ?_; (try simp only [Dat.ok, Dat.dec, Leaf.ok, Leaf.val, Act.eta, Work.eta, Locked.eta, val_sl, val_nil] at hr); cbv) | exact trivial | rfl | refine Both.mk ?_ ?_ | (refine Imp.mk fun h => ?_; (try dsimp only at h); (try simp only [nc, Int.toNat_natCast, ne_eq, zz] at h); (try simp only [nc] at h)) | refine Ob.mk ?_ ?_ | refine Chk.mk (by kernel_rfl) ?_ | refine Eq'.mk ?_ | (refine AllN.mk fun i hi => ?_; cbv) | (refine AllC.mk fun c hc hcm => ?_; (try dsimp only at hc); cbv) | (refine AllS.mk fun r hr => ?_; (try simp only [Dat.ok, Dat.dec, Leaf.ok, Leaf.val, Act.eta, Work.eta, Locked.eta, val_sl] at hr); cbv)
       · cbv
         repeat' first | (refine Stp.mk ?_; cbv) | (refine Gen.mk fun r hr => ?_; (try simp only [Dat.ok, Dat.dec, Leaf.ok, Leaf.val, Act.eta, Work.eta, Locked.eta, val_sl, val_nil] at hr); cbv) | exact trivial | rfl | refine Both.mk ?_ ?_ | (refine Imp.mk fun h => ?_; (try dsimp only at h); (try simp only [nc, Int.toNat_natCast, ne_eq, zz] at h); (try simp only [nc] at h)) | refine Ob.mk ?_ ?_ | refine Chk.mk (by kernel_rfl) ?_ | refine Eq'.mk ?_ | (refine AllN.mk fun i hi => ?_; cbv) | (refine AllC.mk fun c hc hcm => ?_; (try dsimp only at hc); cbv) | (refine AllS.mk fun r hr => ?_; (try simp only [Dat.ok, Dat.dec, Leaf.ok, Leaf.val, Act.eta, Work.eta, Locked.eta, val_sl] at hr); cbv))
  all_goals fail
theorem unitsC_ok : PcOk Try.prog 10 (unitsC_C) := fun A K h => by
  unfold unitsC_C at h
  split at h
  · rename_i w
    cases h with
    | mk h1 h2 =>
      obtain ⟨g0, hp⟩ := h1
      refine FnOk.pre ?_ (A' := [.agg (Dat.enc fun _ => (Dat.dec w : Work))]) (.mk (Dat.hle _ g0) (trivial))
      exact FnOk.out (K := fun r H _ => K r H) (unitsC_vc (Dat.dec w) hp) rfl h2.out
  · cases h

end Go.Proofs.Ythbdlihmafcioaa
