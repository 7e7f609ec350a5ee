/- slices.Index, Contains of the locks that are held: walked. -/
import Derived.Test.YthbdlihmafcioaaTy
set_option linter.all false
namespace Go.Proofs.Ythbdlihmafcioaa
open Go Go.Abs

def idxF (x : Int) : Nat → List Int → Int
  | _, [] => -1
  | k, y :: r => if x = y then (k : Int) else idxF x (k + 1) r
def idxH_R (r : Th (Int)) : AV := .i .i64 fun _ => (r ())
def idxH_S (l : (List Int)) (x : Int) : Int := idxF x 0 l
def idxH_P (l : (List Int)) (x : Int) : Prop := l.length ≤ 9223372036854775807
def idxH_D : Det := fun A => match A with
  | [l, .i .i64 x] => some (fun _ => Leaf.ok (List Int) l ∧ idxH_P (Leaf.val l) (x ()), idxH_R fun _ => idxH_S (Leaf.val l) (x ()))
  | _ => none
structure IdX (x : Int) (l : List Int) where
  k : Nat
  hk : k ≤ l.length
  hr : idxF x 0 l = idxF x k (l.drop k)
theorem idxF_drop {x : Int} {l : List Int} {k : Nat} (hk : k < l.length) : idxF x k (l.drop k) = if x = l.getD k 0 then (k : Int) else idxF x (k + 1) (l.drop (k + 1)) := by
  rw [drop_cons 0 hk, idxF]
theorem idxF_mem {x : Int} : ∀ {l : List Int} {k : Nat}, (0 ≤ idxF x k l ↔ x ∈ l) ∧ (x ∈ l → idxF x k l < k + l.length)
  | [], k => by simp [idxF]
  | y :: r, k => by
    have ih := idxF_mem (x := x) (l := r) (k := k + 1)
    rw [idxF]
    by_cases h : x = y
    · rw [if_pos h]; subst h; simp; omega
    · rw [if_neg h]
      simp only [List.mem_cons, h, false_or, List.length_cons]
      refine ⟨ih.1, fun hx => ?_⟩
      have := ih.2 hx
      omega
set_option maxRecDepth 100000 in
set_option maxHeartbeats 4000000 in
theorem idxH_vc (l : (List Int)) (x : Int) (hp : idxH_P l x) : FnOk Try.prog 28 [Leaf.av fun _ => l, .i .i64 fun _ => x] [] (outA (idxH_R fun _ => idxH_S l x) []) := by
  refine fn_ok envOk zl noCon_ok noDraws_ok (keep := [0, 1, 4, 5, 7, 8, 9, 16]) Try.func28 rfl ?_
  have hp' : l.length ≤ 9223372036854775807 := hp
  have fin : ∀ (n : Int) H kl, idxF x 0 l = n → outA (idxH_R fun _ => idxH_S l x) [] (.i .i64 fun _ => n) H kl := fun n H kl h => by
    have e : idxH_S l x = n := h
    rw [e]
    cbv
    repeat' first | (refine Stp.mk ?_; cbv) | (refine Gen.mk fun r hr => ?_; (try simp only [Dat.ok, Dat.dec, Leaf.ok, Leaf.val, Act.eta, Work.eta, Locked.eta, val_sl, val_nil] at hr); cbv) | exact trivial | rfl | refine Both.mk ?_ ?_ | (refine Imp.mk fun h => ?_; (try dsimp only at h); (try simp only [nc, Int.toNat_natCast, ne_eq, zz] at h); (try simp only [nc] at h)) | refine Ob.mk ?_ ?_ | refine Chk.mk (by kernel_rfl) ?_ | refine Eq'.mk ?_ | (refine AllN.mk fun i hi => ?_; cbv) | (refine AllC.mk fun c hc hcm => ?_; (try dsimp only at hc); cbv) | (refine AllS.mk fun r hr => ?_; (try simp only [Dat.ok, Dat.dec, Leaf.ok, Leaf.val, Act.eta, Work.eta, Locked.eta, val_sl] at hr); cbv)
  generalize outA (idxH_R fun _ => idxH_S l x) [] = K at fin ⊢
  cbv
  refine LoopVC.frame [4, 5, 8, 9, 16] (IdX x l) (fun x => [(8, .i .i64 fun _ => x.k)]) (fun _ => []) [] (fun x => l.length - x.k) ⟨0, Nat.zero_le _, by rw [List.drop_zero]⟩ rfl (fun _ => rfl) ?_ ?_ fun ⟨k, hk, hr⟩ => ?_
  iterate 2
    · cbv
      repeat' first | (refine Stp.mk ?_; cbv) | (refine Gen.mk fun r hr => ?_; (try simp only [Dat.ok, Dat.dec, Leaf.ok, Leaf.val, Act.eta, Work.eta, Locked.eta, val_sl, val_nil] at hr); cbv) | exact trivial | rfl | refine Both.mk ?_ ?_ | (refine Imp.mk fun h => ?_; (try dsimp only at h); (try simp only [nc, Int.toNat_natCast, ne_eq, zz] at h); (try simp only [nc] at h)) | refine Ob.mk ?_ ?_ | refine Chk.mk (by kernel_rfl) ?_ | refine Eq'.mk ?_ | (refine AllN.mk fun i hi => ?_; cbv) | (refine AllC.mk fun c hc hcm => ?_; (try dsimp only at hc); cbv) | (refine AllS.mk fun r hr => ?_; (try simp only [Dat.ok, Dat.dec, Leaf.ok, Leaf.val, Act.eta, Work.eta, Locked.eta, val_sl] at hr); cbv)
  · cbv
    repeat' first | (show Stp _; exfalso; first | omega | (exact h ‹_›) | (exact absurd ‹_› h) | (exact Bool.false_ne_true (h.symm.trans (show _ = true by assumption)))) | (refine Stp.mk ?_; cbv) | (refine Gen.mk fun r hr => ?_; (try simp only [Dat.ok, Dat.dec, Leaf.ok, Leaf.val, Act.eta, Work.eta, Locked.eta, val_sl, val_nil] at hr); cbv) | exact trivial | rfl | refine Both.mk ?_ ?_ | (refine Imp.mk fun h => ?_; (try dsimp only at h); (try simp only [nc, Int.toNat_natCast, ne_eq, zz] at h); (try simp only [nc] at h)) | refine Ob.mk ?_ ?_ | refine Chk.mk (by kernel_rfl) ?_ | refine Eq'.mk ?_ | (refine AllN.mk fun i hi => ?_; cbv) | (refine AllC.mk fun c hc hcm => ?_; (try dsimp only at hc); cbv) | (refine AllS.mk fun r hr => ?_; (try simp only [Dat.ok, Dat.dec, Leaf.ok, Leaf.val, Act.eta, Work.eta, Locked.eta, val_sl] at hr); cbv)
    all_goals ((try dsimp only at *); (try simp only [nc, Int.toNat_natCast, ne_eq, zz] at *); (try simp only [nc] at *))
    all_goals try rw [nc] at *
    all_goals first
      | omega
      | exact ⟨by omega, by omega⟩
      | (unfold InR; omega)
      | (have hk2 : k < l.length := by omega
         refine fin _ _ _ ?_
         rw [hr, idxF_drop hk2, if_pos (by assumption)])
      | (have hk2 : k < l.length := by omega
         refine ⟨⟨k + 1, by omega, by rw [hr, idxF_drop hk2, if_neg (by assumption)]⟩, ?_, ?_, rfl, by (try dsimp only); omega⟩
         · cbv
           repeat' first | (refine Stp.mk ?_; cbv) | (refine Gen.mk fun r hr => ?_; (try simp only [Dat.ok, Dat.dec, Leaf.ok, Leaf.val, Act.eta, Work.eta, Locked.eta, val_sl, val_nil] at hr); cbv) | exact trivial | rfl | refine Both.mk ?_ ?_ | (refine Imp.mk fun h => ?_; (try dsimp only at h); (try simp only [nc, Int.toNat_natCast, ne_eq, zz] at h); (try simp only [nc] at h)) | refine Ob.mk ?_ ?_ | refine Chk.mk (by kernel_rfl) ?_ | refine Eq'.mk ?_ | (refine AllN.mk fun i hi => ?_; cbv) | (refine AllC.mk fun c hc hcm => ?_; (try dsimp only at hc); cbv) | (refine AllS.mk fun r hr => ?_; (try simp only [Dat.ok, Dat.dec, Leaf.ok, Leaf.val, Act.eta, Work.eta, Locked.eta, val_sl] at hr); cbv)
         · cbv
           repeat' first | (refine Stp.mk ?_; cbv) | (refine Gen.mk fun r hr => ?_; (try simp only [Dat.ok, Dat.dec, Leaf.ok, Leaf.val, Act.eta, Work.eta, Locked.eta, val_sl, val_nil] at hr); cbv) | exact trivial | rfl | refine Both.mk ?_ ?_ | (refine Imp.mk fun h => ?_; (try dsimp only at h); (try simp only [nc, Int.toNat_natCast, ne_eq, zz] at h); (try simp only [nc] at h)) | refine Ob.mk ?_ ?_ | refine Chk.mk (by kernel_rfl) ?_ | refine Eq'.mk ?_ | (refine AllN.mk fun i hi => ?_; cbv) | (refine AllC.mk fun c hc hcm => ?_; (try dsimp only at hc); cbv) | (refine AllS.mk fun r hr => ?_; (try simp only [Dat.ok, Dat.dec, Leaf.ok, Leaf.val, Act.eta, Work.eta, Locked.eta, val_sl] at hr); cbv))
      | (refine fin _ _ _ ?_
         rw [hr, List.drop_eq_nil_of_le (by omega), idxF])
      | fail
theorem idxH_ok : PcOk Try.prog 28 (detPC idxH_D) := det_okA fun A p r h hp0 => by
  unfold idxH_D at h
  split at h
  · rename_i l x
    cases h
    obtain ⟨g0, hp⟩ := hp0
    exact ⟨rfl, FnOk.pre (A' := [Leaf.av fun _ => (Leaf.val l : (List Int)), .i .i64 fun _ => x ()]) (idxH_vc (Leaf.val l) (x ()) hp) (.mk (Leaf.hle _ g0) (.mk (.mk (.mk rfl) (.mk rfl)) (trivial)))⟩
  · cases h
def conH_R (r : Th (Bool)) : AV := .b fun _ => (r ())
def conH_S (l : (List Int)) (x : Int) : Bool := decide (x ∈ l)
def conH_P (l : (List Int)) (x : Int) : Prop := l.length ≤ 9223372036854775807
def conH_D : Det := fun A => match A with
  | [l, .i .i64 x] => some (fun _ => Leaf.ok (List Int) l ∧ conH_P (Leaf.val l) (x ()), conH_R fun _ => conH_S (Leaf.val l) (x ()))
  | _ => none
noncomputable def cCh : FuncId → Con := fun f => match f with
  | 28 => pureCon (detPC idxH_D)
  | _ => fun _ _ _ => Bad 1001
theorem cCh_ok : ConOk Try.prog cCh := fun f A H K h => by
  unfold cCh at h
  split at h
  · exact ⟨⟨Try.f28, Try.func28, by kernel_rfl, by kernel_rfl⟩, pureCon_ok idxH_ok h⟩
  · cases h
set_option maxRecDepth 100000 in
set_option maxHeartbeats 4000000 in
theorem conH_vc (l : (List Int)) (x : Int) (hp : conH_P l x) : FnOk Try.prog 23 [Leaf.av fun _ => l, .i .i64 fun _ => x] [] (outA (conH_R fun _ => conH_S l x) []) := by
  refine fn_ok envOk zl cCh_ok noDraws_ok (keep := [0, 1, 4]) Try.func23 rfl ?_
  have hp' : l.length ≤ 9223372036854775807 := hp
  cbv
  repeat' first | (show Stp _; exfalso; first | omega | (exact h ‹_›) | (exact absurd ‹_› h) | (exact Bool.false_ne_true (h.symm.trans (show _ = true by assumption)))) | (refine Stp.mk ?_; cbv) | (refine Gen.mk fun r hr => ?_; (try simp only [Dat.ok, Dat.dec, Leaf.ok, Leaf.val, Act.eta, Work.eta, Locked.eta, val_sl, val_nil] at hr); cbv) | exact trivial | rfl | refine Both.mk ?_ ?_ | (refine Imp.mk fun h => ?_; (try dsimp only at h); (try simp only [nc, Int.toNat_natCast, ne_eq, zz] at h); (try simp only [nc] at h)) | refine Ob.mk ?_ ?_ | refine Chk.mk (by kernel_rfl) ?_ | refine Eq'.mk ?_ | (refine AllN.mk fun i hi => ?_; cbv) | (refine AllC.mk fun c hc hcm => ?_; (try dsimp only at hc); cbv) | (refine AllS.mk fun r hr => ?_; (try simp only [Dat.ok, Dat.dec, Leaf.ok, Leaf.val, Act.eta, Work.eta, Locked.eta, val_sl] at hr); cbv)
  all_goals ((try dsimp only at *); (try simp only [nc, Int.toNat_natCast, ne_eq, zz] at *); (try simp only [nc] at *))
  all_goals try simp only [Dat.dec, Leaf.val, Act.eta, Work.eta, Locked.eta, val_sl] at *
  all_goals first
    | exact ⟨⟨rfl, fun i _ => Dat.hok _⟩, hp'⟩
    | (show decide (0 ≤ idxF x 0 l) = decide (x ∈ l); exact decide_eq_decide.2 idxF_mem.1)
    | fail
theorem conH_ok : PcOk Try.prog 23 (detPC conH_D) := det_okA fun A p r h hp0 => by
  unfold conH_D at h
  split at h
  · rename_i l x
    cases h
    obtain ⟨g0, hp⟩ := hp0
    exact ⟨rfl, FnOk.pre (A' := [Leaf.av fun _ => (Leaf.val l : (List Int)), .i .i64 fun _ => x ()]) (conH_vc (Leaf.val l) (x ()) hp) (.mk (Leaf.hle _ g0) (.mk (.mk (.mk rfl) (.mk rfl)) (trivial)))⟩
  · cases h

end Go.Proofs.Ythbdlihmafcioaa
