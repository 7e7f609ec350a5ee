/- slices.Repeat of one, walked at each type. -/
import Derived.Test.YthbdlihmafcioaaAbsG4
import Derived.Test.YthbdlihmafcioaaMul
set_option linter.all false
namespace Go.Proofs.Ythbdlihmafcioaa
open Go Go.Abs

noncomputable def rpIntc0 : FuncId → Con := fun f => match f with
  | 30 => pureCon (detPC mul64_D)
  | _ => fun _ _ _ => Bad 1001
theorem rpIntc0_ok : ConOk Try.prog rpIntc0 := fun f A H K h => by
  unfold rpIntc0 at h
  split at h
  · exact ⟨⟨Try.f30, Try.func30, by kernel_rfl, by kernel_rfl⟩, pureCon_ok mul64_ok h⟩
  · cases h
noncomputable def rpIntc1 : FuncId → Con := fun f => match f with
  | 26 => inlCon E rpIntc0 noDraws [0, 1, 4, 5, 6, 7, 8, 9] Try.f26
  | _ => fun _ _ _ => Bad 1001
theorem rpIntc1_ok : ConOk Try.prog rpIntc1 := fun f A H K h => by
  unfold rpIntc1 at h
  split at h
  · exact ⟨⟨Try.f26, Try.func26, by kernel_rfl, by kernel_rfl⟩, inl_ok envOk zl rpIntc0_ok noDraws_ok Try.func26 h⟩
  · cases h
def rpIntd : FuncId → Option Dt := fun f => match f with
  | _ => none
theorem rpIntd_ok : DetOk Try.prog rpIntd := fun f d h => by
  unfold rpIntd at h
  split at h
  · cases h
structure rpInt_X (n : Int) where
  k : Nat
  hk : (k : Int) ≤ n
  h1 : 1 ≤ k ∨ n = 0
def rpInt_R (r : Th ((List Int))) : AV := .own 0 fun _ => (r ()).length
def rpInt_H (r : Th ((List Int))) : Hp := [vecO 3 fun _ => (r ())]
def rpInt_S (x : (List Int)) (n : Int) : (List Int) := List.replicate n.toNat (x.getD 0 Dat.d0)
def rpInt_P (x : (List Int)) (n : Int) : Prop := x.length = 1 ∧ 0 ≤ n ∧ n ≤ 1000000
def rpInt_C : PC := fun A K => match A with
  | [x, .i .i64 n] => Ob (fun _ => Leaf.ok (List Int) x ∧ rpInt_P (Leaf.val x) (n ())) (Gen (α := (List Int)) (fun _ => rpInt_S (Leaf.val x) (n ())) fun r => K (rpInt_R fun _ => r) (rpInt_H fun _ => r))
  | _ => Bad 1002
set_option maxRecDepth 100000 in
set_option maxHeartbeats 4000000 in
theorem rpInt_vc (x : (List Int)) (n : Int) (hp : rpInt_P x n) : FnOk Try.prog 19 [Leaf.av fun _ => x, .i .i64 fun _ => n] [] (outA (rpInt_R fun _ => rpInt_S x n) (rpInt_H fun _ => rpInt_S x n)) := by
  refine fn_ok envOk zl rpIntc1_ok (draws_ok envOk zl rpIntd_ok mixed) (keep := [0, 1, 4, 5, 6, 7, 8, 10, 26, 37]) Try.func19 rfl ?_
  obtain ⟨p1, p2, p3⟩ : x.length = 1 ∧ 0 ≤ n ∧ n ≤ 1000000 := hp
  have fin : ∀ kl, outA (rpInt_R fun _ => List.replicate n.toNat (x.getD 0 Dat.d0)) (rpInt_H fun _ => List.replicate n.toNat (x.getD 0 Dat.d0)) (.own 0 fun _ => n.toNat) [vecO 3 fun _ => List.replicate n.toNat (x.getD 0 Dat.d0)] kl := fun kl => by
    cbv
    repeat' first | (refine Stp.mk ?_; cbv) | (refine Gen.mk fun r hr => ?_; (try simp only [Dat.ok, Dat.dec, Leaf.ok, Leaf.val, Act.eta, Work.eta, Locked.eta, val_sl, val_nil] at hr); cbv) | exact trivial | rfl | refine Both.mk ?_ ?_ | (refine Imp.mk fun h => ?_; (try dsimp only at h); (try simp only [nc, Int.toNat_natCast, ne_eq, zz] at h); (try simp only [nc] at h)) | refine Ob.mk ?_ ?_ | refine Chk.mk (by kernel_rfl) ?_ | refine Eq'.mk ?_ | (refine AllN.mk fun i hi => ?_; cbv) | (refine AllC.mk fun c hc hcm => ?_; (try dsimp only at hc); cbv) | (refine AllS.mk fun r hr => ?_; (try simp only [Dat.ok, Dat.dec, Leaf.ok, Leaf.val, Act.eta, Work.eta, Locked.eta, val_sl] at hr); cbv)
    all_goals first | (simp; done) | rfl
  have fin2 : outA (rpInt_R fun _ => rpInt_S x n) (rpInt_H fun _ => rpInt_S x n) = outA (rpInt_R fun _ => List.replicate n.toNat (x.getD 0 Dat.d0)) (rpInt_H fun _ => List.replicate n.toNat (x.getD 0 Dat.d0)) := rfl
  rw [fin2]
  clear fin2
  generalize outA (rpInt_R fun _ => List.replicate n.toNat (x.getD 0 Dat.d0)) (rpInt_H fun _ => List.replicate n.toNat (x.getD 0 Dat.d0)) = K at fin ⊢
  have w1 : IntKind.u64.wrap (x.length : Int) = 1 := by rw [wrap_u64 (by omega) (by omega)]; omega
  have w2 : IntKind.u64.wrap n = n := wrap_u64 (by omega) (by omega)
  have hm1 : (mulV 1 n).1 = 0 := by show 1 * n / 18446744073709551616 = 0; omega
  have hm2 : (mulV 1 n).2 = n := by show 1 * n % 18446744073709551616 = n; omega
  have w3 : IntKind.i64.wrap n = n := wrap64_in (by unfold InR; omega)
  cbv
  repeat' first | (show Stp _; exfalso; first | omega | (exact h ‹_›) | (exact absurd ‹_› h) | (exact Bool.false_ne_true (h.symm.trans (show _ = true by assumption)))) | (refine Stp.mk ?_; cbv) | (refine Gen.mk fun r hr => ?_; (try simp only [Dat.ok, Dat.dec, Leaf.ok, Leaf.val, Act.eta, Work.eta, Locked.eta, val_sl, val_nil] at hr); cbv) | exact trivial | rfl | refine Both.mk ?_ ?_ | (refine Imp.mk fun h => ?_; (try dsimp only at h); (try simp only [nc, Int.toNat_natCast, ne_eq, zz] at h); (try simp only [nc] at h)) | refine Ob.mk ?_ ?_ | refine Chk.mk (by kernel_rfl) ?_ | refine Eq'.mk ?_ | (refine AllN.mk fun i hi => ?_; cbv) | (refine AllC.mk fun c hc hcm => ?_; (try dsimp only at hc); cbv) | (refine AllS.mk fun r hr => ?_; (try simp only [Dat.ok, Dat.dec, Leaf.ok, Leaf.val, Act.eta, Work.eta, Locked.eta, val_sl] at hr); cbv)
  all_goals ((try dsimp only at *); (try simp only [nc, Int.toNat_natCast, ne_eq, zz] at *); (try simp only [nc] at *))
  all_goals try simp only [w1, w2, hm1, hm2, w3]
  all_goals try simp only [w1, w2, hm1, hm2, w3] at h
  all_goals first
    | omega
    | (unfold InR; omega)
    | (exfalso; omega)
    | exact ⟨by omega, by omega, by omega, by omega⟩
    | exact ⟨trivial, by omega⟩
    | skip
  all_goals have hmin : ((min x.length n.toNat : Nat)) = (if n = 0 then 0 else 1) := by split <;> omega
  refine LoopVC.frame [8, 37] (rpInt_X n) (fun x => [(8, .i .i64 fun _ => x.k)]) (fun y => [(0, vecO 3 fun _ => fillU (x.getD 0 Dat.d0) y.k n.toNat)]) [] (fun x => n.toNat - x.k)
      ⟨if n = 0 then 0 else 1, by split <;> omega, by split <;> omega⟩ rfl (fun _ => rfl) ?_ ?_ fun ⟨k, hk, h1⟩ => ?_
  · cbv
    repeat' first | (refine Stp.mk ?_; cbv) | (refine Gen.mk fun r hr => ?_; (try simp only [Dat.ok, Dat.dec, Leaf.ok, Leaf.val, Act.eta, Work.eta, Locked.eta, val_sl, val_nil] at hr); cbv) | exact trivial | rfl | refine Both.mk ?_ ?_ | (refine Imp.mk fun h => ?_; (try dsimp only at h); (try simp only [nc, Int.toNat_natCast, ne_eq, zz] at h); (try simp only [nc] at h)) | refine Ob.mk ?_ ?_ | refine Chk.mk (by kernel_rfl) ?_ | refine Eq'.mk ?_ | (refine AllN.mk fun i hi => ?_; cbv) | (refine AllC.mk fun c hc hcm => ?_; (try dsimp only at hc); cbv) | (refine AllS.mk fun r hr => ?_; (try simp only [Dat.ok, Dat.dec, Leaf.ok, Leaf.val, Act.eta, Work.eta, Locked.eta, val_sl] at hr); cbv)
    all_goals ((try dsimp only at *); (try simp only [nc, Int.toNat_natCast, ne_eq, zz] at *); (try simp only [nc] at *))
    all_goals try simp only [hmin]
    all_goals first | rfl | (split <;> rfl) | fail
  · cbv
    repeat' first | (refine Stp.mk ?_; cbv) | (refine Gen.mk fun r hr => ?_; (try simp only [Dat.ok, Dat.dec, Leaf.ok, Leaf.val, Act.eta, Work.eta, Locked.eta, val_sl, val_nil] at hr); cbv) | exact trivial | rfl | refine Both.mk ?_ ?_ | (refine Imp.mk fun h => ?_; (try dsimp only at h); (try simp only [nc, Int.toNat_natCast, ne_eq, zz] at h); (try simp only [nc] at h)) | refine Ob.mk ?_ ?_ | refine Chk.mk (by kernel_rfl) ?_ | refine Eq'.mk ?_ | (refine AllN.mk fun i hi => ?_; cbv) | (refine AllC.mk fun c hc hcm => ?_; (try dsimp only at hc); cbv) | (refine AllS.mk fun r hr => ?_; (try simp only [Dat.ok, Dat.dec, Leaf.ok, Leaf.val, Act.eta, Work.eta, Locked.eta, val_sl] at hr); cbv)
    all_goals ((try dsimp only at *); (try simp only [nc, Int.toNat_natCast, ne_eq, zz] at *); (try simp only [nc] at *))
    all_goals first
      | exact (fillU_len _ _ _).symm
      | (have hi2 : i < n.toNat := by assumption
         rw [fillU_get hi2, hmin]
         by_cases hn : n = 0
         · omega
         · rw [if_neg hn]
           by_cases hi0 : i = 0
           · subst hi0; rfl
           · have hd : decide (0 ≤ i ∧ i < 0 + 1) = false := decide_eq_false (by omega)
             rw [if_neg (by omega), hd]; rfl)
      | fail
  · have hlen : (fillU (x.getD 0 Dat.d0) k n.toNat).length = n.toNat := fillU_len _ _ _
    cbv
    repeat' first | (show Stp _; exfalso; first | omega | (exact h ‹_›) | (exact absurd ‹_› h) | (exact Bool.false_ne_true (h.symm.trans (show _ = true by assumption)))) | (refine Stp.mk ?_; cbv) | (refine Gen.mk fun r hr => ?_; (try simp only [Dat.ok, Dat.dec, Leaf.ok, Leaf.val, Act.eta, Work.eta, Locked.eta, val_sl, val_nil] at hr); cbv) | exact trivial | rfl | refine Both.mk ?_ ?_ | (refine Imp.mk fun h => ?_; (try dsimp only at h); (try simp only [nc, Int.toNat_natCast, ne_eq, zz] at h); (try simp only [nc] at h)) | refine Ob.mk ?_ ?_ | refine Chk.mk (by kernel_rfl) ?_ | refine Eq'.mk ?_ | (refine AllN.mk fun i hi => ?_; cbv) | (refine AllC.mk fun c hc hcm => ?_; (try dsimp only at hc); cbv) | (refine AllS.mk fun r hr => ?_; (try simp only [Dat.ok, Dat.dec, Leaf.ok, Leaf.val, Act.eta, Work.eta, Locked.eta, val_sl] at hr); cbv)
    all_goals ((try dsimp only at *); (try simp only [nc, Int.toNat_natCast, ne_eq, zz] at *); (try simp only [nc] at *))
    all_goals try rw [nc] at *
    all_goals first
      | omega
      | (unfold InR; omega)
      | (have hm3 : min ((k : Int) - 0).toNat ((n.toNat : Int) - k).toNat ≤ k := by omega
         refine ⟨⟨k + min ((k : Int) - 0).toNat ((n.toNat : Int) - k).toNat, by omega, by omega⟩, ?_, ?_, rfl, by (try dsimp only); omega⟩
         · cbv
           repeat' first | (refine Stp.mk ?_; cbv) | (refine Gen.mk fun r hr => ?_; (try simp only [Dat.ok, Dat.dec, Leaf.ok, Leaf.val, Act.eta, Work.eta, Locked.eta, val_sl, val_nil] at hr); cbv) | exact trivial | rfl | refine Both.mk ?_ ?_ | (refine Imp.mk fun h => ?_; (try dsimp only at h); (try simp only [nc, Int.toNat_natCast, ne_eq, zz] at h); (try simp only [nc] at h)) | refine Ob.mk ?_ ?_ | refine Chk.mk (by kernel_rfl) ?_ | refine Eq'.mk ?_ | (refine AllN.mk fun i hi => ?_; cbv) | (refine AllC.mk fun c hc hcm => ?_; (try dsimp only at hc); cbv) | (refine AllS.mk fun r hr => ?_; (try simp only [Dat.ok, Dat.dec, Leaf.ok, Leaf.val, Act.eta, Work.eta, Locked.eta, val_sl] at hr); cbv)
           all_goals ((try dsimp only at *); (try simp only [nc, Int.toNat_natCast, ne_eq, zz] at *); (try simp only [nc] at *))
           all_goals first | rfl | (simp; omega) | fail
         · cbv
           repeat' first | (refine Stp.mk ?_; cbv) | (refine Gen.mk fun r hr => ?_; (try simp only [Dat.ok, Dat.dec, Leaf.ok, Leaf.val, Act.eta, Work.eta, Locked.eta, val_sl, val_nil] at hr); cbv) | exact trivial | rfl | refine Both.mk ?_ ?_ | (refine Imp.mk fun h => ?_; (try dsimp only at h); (try simp only [nc, Int.toNat_natCast, ne_eq, zz] at h); (try simp only [nc] at h)) | refine Ob.mk ?_ ?_ | refine Chk.mk (by kernel_rfl) ?_ | refine Eq'.mk ?_ | (refine AllN.mk fun i hi => ?_; cbv) | (refine AllC.mk fun c hc hcm => ?_; (try dsimp only at hc); cbv) | (refine AllS.mk fun r hr => ?_; (try simp only [Dat.ok, Dat.dec, Leaf.ok, Leaf.val, Act.eta, Work.eta, Locked.eta, val_sl] at hr); cbv)
           all_goals ((try dsimp only at *); (try simp only [nc, Int.toNat_natCast, ne_eq, zz] at *); (try simp only [nc] at *))
           all_goals have e0 : ((k : Int) - 0).toNat = k := by omega
           all_goals try simp only [e0] at *
           all_goals first
             | (rw [fillU_len, fillU_len]; done)
             | (have hi3 : i < n.toNat := by omega
                have hs := fillU_step (a := x.getD 0 Dat.d0) (k := k) (m := min k ((n.toNat : Int) - k).toNat) (by omega) hi3 (by omega)
                first
                  | exact hs.symm
                  | (refine Eq.trans ?_ (congrArg _ hs.symm); cases decide (k ≤ i ∧ i < k + min k ((n.toNat : Int) - k).toNat) <;> rfl))
             | fail)
      | exact ⟨trivial, by omega, by omega⟩
      | exact ⟨⟨trivial, by omega⟩, by omega⟩
      | (have e : fillU (x.getD 0 Dat.d0) k n.toNat = List.replicate n.toNat (x.getD 0 Dat.d0) := fillU_done _ (by omega)
         rw [e]
         exact fin _)
      | fail
theorem rpInt_ok : PcOk Try.prog 19 (rpInt_C) := fun A K h => by
  unfold rpInt_C at h
  split at h
  · rename_i x n
    cases h with
    | mk h1 h2 =>
      obtain ⟨g0, hp⟩ := h1
      refine FnOk.pre ?_ (A' := [Leaf.av fun _ => (Leaf.val x : (List Int)), .i .i64 fun _ => n ()]) (.mk (Leaf.hle _ g0) (.mk (.mk (.mk rfl) (.mk rfl)) (trivial)))
      exact FnOk.out (K := fun r H _ => K r H) (rpInt_vc (Leaf.val x) (n ()) hp) rfl h2.out
  · cases h

end Go.Proofs.Ythbdlihmafcioaa
