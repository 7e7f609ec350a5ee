/- lock.house: free acts of a worker, walked. -/
import Derived.Test.YthbdlihmafcioaaLock2
import Derived.Test.YthbdlihmafcioaaLockQ
import Derived.Test.YthbdlihmafcioaaAbsG4
import Derived.Test.YthbdlihmafcioaaAbsG3
set_option linter.all false
namespace Go.Proofs.Ythbdlihmafcioaa
open Go Go.Abs

def wksO (l : List Work) (ws : Th (List Wk)) : AObj := .nst 46 1 (fun _ => (ws ()).length) (fun i => [.pt [.c (.i .i64 fun _ => (l.getD (i ()) Dat.d0).came), .c (.sl 2 (fun _ => (l.getD (i ()) Dat.d0).acts.length) fun j => Dat.enc fun _ => (l.getD (i ()) Dat.d0).acts.getD (j ()) Dat.d0),
  .c (.i .i64 fun _ => (((ws ()).getD (i ()) wk0).at_ : Int)), .c (.i .i64 fun _ => ((ws ()).getD (i ()) wk0).ran), .sl 3 1 (fun _ => ((ws ()).getD (i ()) wk0).h.length) fun j => Dat.enc fun _ => ((ws ()).getD (i ()) wk0).h.getD (j ()) Dat.d0]]) none
def ownC (o : Th (List Int)) : List AV := [.i .i64 fun _ => (o ()).getD 0 0, .i .i64 fun _ => (o ()).getD 1 0, .i .i64 fun _ => (o ()).getD 2 0, .i .i64 fun _ => (o ()).getD 3 0, .i .i64 fun _ => (o ()).getD 4 0, .i .i64 fun _ => (o ()).getD 5 0, .i .i64 fun _ => (o ()).getD 6 0, .i .i64 fun _ => (o ()).getD 7 0]
def hsO (n t : Th Nat) (o : Th (List Int)) (clash : Th Int) : AObj := .blk ([.own 1 n, .own 2 fun _ => 8] ++ ownC o ++ [.own 3 t, .own 4 n, .i .i64 clash])
structure FrX (l : List Work) (i : Nat) (x : Wk) (tk : Bool) (o0 : List Int) where
  k : Nat
  l0 : List Int
  m : Nat
  o : List Int
  hk : k ≤ (l.getD i Dat.d0).acts.length
  hm : m ≤ l0.length
  hl : l0.length ≤ k
  ho : o.length = 8
  hr : ∃ runs, rgtR (l0.take m) runs ((l.getD i Dat.d0).acts.drop k) = true
  hn : ∀ n ∈ l0.take m, 0 ≤ n ∧ n < 8
  he : freeR i tk ((l.getD i Dat.d0).acts.drop x.at_) x.at_ x.h o0 = freeR i tk ((l.getD i Dat.d0).acts.drop k) k (l0.take m) o
theorem bif_same {α : Type} (f : Nat → α) {i q : Nat} : (bif decide (i = q) then f q else f i) = f i := by
  by_cases h : i = q
  · subst h; rw [decide_eq_true rfl, cond_true]
  · rw [decide_eq_false h, cond_false]
theorem setW {ws : List Wk} {i q : Nat} {x : Wk} (hi : i < ws.length) : (ws.set q x).getD i wk0 = if i = q then x else ws.getD i wk0 := by
  by_cases h : i = q
  · subst h; rw [if_pos rfl]; simp [List.getD_eq_getElem?_getD, hi]
  · rw [if_neg h]; simp [List.getD_eq_getElem?_getD, List.getElem?_set, Ne.symm h]
theorem setW_f {α : Type} {ws : List Wk} {i q : Nat} {x : Wk} (f : Wk → α) (hi : i < ws.length) {a : α} (ha : a = f x) : (bif decide (i = q) then a else f (ws.getD i wk0)) = f ((ws.set q x).getD i wk0) := by
  rw [setW hi]
  by_cases h : i = q
  · rw [decide_eq_true h, cond_true, if_pos h, ha]
  · rw [decide_eq_false h, cond_false, if_neg h]
theorem setW_c {ws : List Wk} {i q j m : Nat} {x : Wk} {l0 : List Int} (hi : i < ws.length) (hx : x.h = l0.take m) (hj : j < bif decide (i = q) then m else (ws.getD i wk0).h.length) :
    (bif decide (i = q) then l0.getD j Dat.d0 else (ws.getD i wk0).h.getD j Dat.d0) = ((ws.set q x).getD i wk0).h.getD j Dat.d0 := by
  rw [setW hi]
  by_cases h : i = q
  · rw [decide_eq_true h, cond_true] at hj
    rw [decide_eq_true h, cond_true, if_pos h, hx]
    simp [List.getD_eq_getElem?_getD, List.getElem?_take, hj]
  · rw [decide_eq_false h, cond_false, if_neg h]
theorem own_set {o : List Int} {p c : Nat} {v : Int} (hc : c < o.length) : (bif decide (p = c) then v else o.getD c 0) = (o.set p v).getD c 0 := by
  by_cases h : p = c
  · subst h
    rw [decide_eq_true rfl, cond_true]
    simp [List.getD_eq_getElem?_getD, hc]
  · rw [decide_eq_false h, cond_false]
    simp [List.getD_eq_getElem?_getD, List.getElem?_set, h]
theorem own_T {a b c d : Th Nat} {e : Th Int} {o : List Int} {p : Nat} (hp : p < 8) : nthT (nums (dropN 2 [.own 1 a, .own 2 b, .i .i64 fun _ => o.getD 0 0, .i .i64 fun _ => o.getD 1 0, .i .i64 fun _ => o.getD 2 0, .i .i64 fun _ => o.getD 3 0, .i .i64 fun _ => o.getD 4 0, .i .i64 fun _ => o.getD 5 0, .i .i64 fun _ => o.getD 6 0, .i .i64 fun _ => o.getD 7 0, .own 3 c, .own 4 d, .i .i64 e])) p = o.getD p 0 := by
  match p, hp with
  | 0, _ | 1, _ | 2, _ | 3, _ | 4, _ | 5, _ | 6, _ | 7, _ => rfl
theorem own_lt {a b c d : Th Nat} {e : Th Int} {o : List Int} {p : Nat} (hp : p < 8) (h : 0 < nthT (nums (dropN 2 [.own 1 a, .own 2 b, .i .i64 fun _ => o.getD 0 0, .i .i64 fun _ => o.getD 1 0, .i .i64 fun _ => o.getD 2 0, .i .i64 fun _ => o.getD 3 0, .i .i64 fun _ => o.getD 4 0, .i .i64 fun _ => o.getD 5 0, .i .i64 fun _ => o.getD 6 0, .i .i64 fun _ => o.getD 7 0, .own 3 c, .own 4 d, .i .i64 e])) p) : 0 < o.getD p 0 := by rwa [own_T hp] at h
theorem own_le {a b c d : Th Nat} {e : Th Int} {o : List Int} {p : Nat} (hp : p < 8) (h : nthT (nums (dropN 2 [.own 1 a, .own 2 b, .i .i64 fun _ => o.getD 0 0, .i .i64 fun _ => o.getD 1 0, .i .i64 fun _ => o.getD 2 0, .i .i64 fun _ => o.getD 3 0, .i .i64 fun _ => o.getD 4 0, .i .i64 fun _ => o.getD 5 0, .i .i64 fun _ => o.getD 6 0, .i .i64 fun _ => o.getD 7 0, .own 3 c, .own 4 d, .i .i64 e])) p ≤ 0) : o.getD p 0 ≤ 0 := by rwa [own_T hp] at h
def dFr : FuncId → Option Dt := fun f => match f with
  | 23 => some (.c conH_D)
  | _ => none
theorem dFr_ok : DetOk Try.prog dFr := fun f d h => by
  unfold dFr at h
  split at h
  · cases h; exact ⟨⟨Try.f23, Try.func23, by kernel_rfl, by kernel_rfl⟩, conH_ok⟩
  · cases h
noncomputable def cFr : FuncId → Con := fun f => match f with
  | 24 => inlCon E noCon noDraws [0, 1] Try.f24
  | 25 => inlCon E noCon (draws E dRg) [0] Try.f25
  | _ => fun _ _ _ => Bad 1001
theorem cFr_ok : ConOk Try.prog cFr := fun f A H K h => by
  unfold cFr at h
  split at h
  · exact ⟨⟨Try.f24, Try.func24, by kernel_rfl, by kernel_rfl⟩, inl_ok envOk zl noCon_ok noDraws_ok Try.func24 h⟩
  · exact ⟨⟨Try.f25, Try.func25, by kernel_rfl, by kernel_rfl⟩, inl_ok envOk zl noCon_ok (draws_ok envOk zl dRg_ok mixed) Try.func25 h⟩
  · cases h
set_option maxRecDepth 100000 in
set_option maxHeartbeats 4000000 in
theorem free_vc (l : List Work) (ws : List Wk) (cl o0 rn en : List Int) (clash : Int) (q : Nat) (tk : Bool) (hws : ws.length = l.length) (hl8 : l.length ≤ 8) (hq : q < l.length) (ho : o0.length = 8) (hw : WkOk (l.getD q Dat.d0) (ws.getD q wk0)) (R : Bool × Nat × List Int × List Int)
    (hR : freeR q tk ((l.getD q Dat.d0).acts.drop (ws.getD q wk0).at_) (ws.getD q wk0).at_ (ws.getD q wk0).h o0 = R) :
    FnOk Try.prog 21 [.ptr 0 0, .i .i64 fun _ => (q : Int), .b fun _ => tk] [hsO (fun _ => ws.length) (fun _ => rn.length) (fun _ => o0) fun _ => clash, wksO l fun _ => ws, vecO 3 fun _ => cl, vecO 3 fun _ => rn, vecO 3 fun _ => en] (outLe 5
      (.b fun _ => R.1) [hsO (fun _ => ws.length) (fun _ => rn.length) (fun _ => R.2.2.2) fun _ => clash, wksO l fun _ => ws.set q ⟨R.2.1, (ws.getD q wk0).ran, R.2.2.1⟩, vecO 3 fun _ => cl, vecO 3 fun _ => rn, vecO 3 fun _ => en] [1]) := by
  refine fn_ok envOk zl cFr_ok (mixD_ok envOk zl cFr_ok dFr_ok mixed) (keep := [0, 1, 2, 6, 7, 8, 26, 59, 73, 81]) Try.func21 rfl ?_
  cbv
  repeat' first | (show Stp _; exfalso; first | omega | (exact h ‹_›) | (exact absurd ‹_› h) | (exact Bool.false_ne_true (h.symm.trans (show _ = true by assumption)))) | (refine Stp.mk ?_; cbv) | (refine Gen.mk fun r hr => ?_; (try simp only [Dat.ok, Dat.dec, Leaf.ok, Leaf.val, Act.eta, Work.eta, Locked.eta, val_sl, val_nil] at hr); cbv) | exact trivial | rfl | refine Both.mk ?_ ?_ | (refine Imp.mk fun h => ?_; (try dsimp only at h); (try simp only [nc, Int.toNat_natCast, ne_eq, zz] at h); (try simp only [nc] at h)) | refine Ob.mk ?_ ?_ | refine Chk.mk (by kernel_rfl) ?_ | refine Eq'.mk ?_ | (refine AllN.mk fun i hi => ?_; cbv) | (refine AllC.mk fun c hc hcm => ?_; (try dsimp only at hc); cbv) | (refine AllS.mk fun r hr => ?_; (try simp only [Dat.ok, Dat.dec, Leaf.ok, Leaf.val, Act.eta, Work.eta, Locked.eta, val_sl] at hr); cbv)
  all_goals ((try dsimp only at *); (try simp only [nc, Int.toNat_natCast, ne_eq, zz] at *); (try simp only [nc] at *))
  all_goals try omega
  obtain ⟨w1, w2, w3, ⟨runs0, w4⟩, w5⟩ := hw
  refine LoopVC.frame [6, 8, 26, 59, 73, 81] (FrX l q (ws.getD q wk0) tk o0) (fun x => []) (fun x => [(0, hsO (fun _ => ws.length) (fun _ => rn.length) (fun _ => x.o) fun _ => clash), (5, .blk [.i .i64 fun _ => (l.getD q Dat.d0).came, .sl 2 (fun _ => (l.getD q Dat.d0).acts.length) fun j => Dat.enc fun _ => (l.getD q Dat.d0).acts.getD (j ()) Dat.d0, .i .i64 fun _ => (x.k : Int), .i .i64 fun _ => (ws.getD q wk0).ran, .own 6 fun _ => x.m]), (6, vecO 3 fun _ => x.l0)]) [6] (fun x => (l.getD q Dat.d0).acts.length - x.k)
    ⟨(ws.getD q wk0).at_, (ws.getD q wk0).h, (ws.getD q wk0).h.length, o0, w2, Nat.le_refl _, w3, ho, ⟨runs0, by rw [List.take_length]; exact w4⟩, by rw [List.take_length]; exact w5, by rw [List.take_length]⟩ rfl (fun _ => rfl) ?_ ?_ fun ⟨k, l0, m, o, hk, hm, hl, ho, ⟨runs, hr⟩, hn, he⟩ => ?_
  · cbv
    repeat' first | (refine Stp.mk ?_; cbv) | (refine Gen.mk fun r hr => ?_; (try simp only [Dat.ok, Dat.dec, Leaf.ok, Leaf.val, Act.eta, Work.eta, Locked.eta, val_sl, val_nil] at hr); cbv) | exact trivial | rfl | refine Both.mk ?_ ?_ | (refine Imp.mk fun h => ?_; (try dsimp only at h); (try simp only [nc, Int.toNat_natCast, ne_eq, zz] at h); (try simp only [nc] at h)) | refine Ob.mk ?_ ?_ | refine Chk.mk (by kernel_rfl) ?_ | refine Eq'.mk ?_ | (refine AllN.mk fun i hi => ?_; cbv) | (refine AllC.mk fun c hc hcm => ?_; (try dsimp only at hc); cbv) | (refine AllS.mk fun r hr => ?_; (try simp only [Dat.ok, Dat.dec, Leaf.ok, Leaf.val, Act.eta, Work.eta, Locked.eta, val_sl] at hr); cbv)
  · cbv
    repeat' first | (refine Stp.mk ?_; cbv) | (refine Gen.mk fun r hr => ?_; (try simp only [Dat.ok, Dat.dec, Leaf.ok, Leaf.val, Act.eta, Work.eta, Locked.eta, val_sl, val_nil] at hr); cbv) | exact trivial | rfl | refine Both.mk ?_ ?_ | (refine Imp.mk fun h => ?_; (try dsimp only at h); (try simp only [nc, Int.toNat_natCast, ne_eq, zz] at h); (try simp only [nc] at h)) | refine Ob.mk ?_ ?_ | refine Chk.mk (by kernel_rfl) ?_ | refine Eq'.mk ?_ | (refine AllN.mk fun i hi => ?_; cbv) | (refine AllC.mk fun c hc hcm => ?_; (try dsimp only at hc); cbv) | (refine AllS.mk fun r hr => ?_; (try simp only [Dat.ok, Dat.dec, Leaf.ok, Leaf.val, Act.eta, Work.eta, Locked.eta, val_sl] at hr); cbv)
    all_goals fail
  · rw [he] at hR
    have hlen : (l0.take m).length = m := by rw [List.length_take]; omega
    have ex1 : k < (l.getD q Dat.d0).acts.length → ((l.getD q Dat.d0).acts.getD k Dat.d0).kind = 1 → R = (true, k, l0.take m, o) := fun h1 h2 => by rw [← hR, drop_cons Dat.d0 h1, freeR, if_neg (by omega), if_pos (.inl h2)]
    have ex2 : k < (l.getD q Dat.d0).acts.length → ¬ ((l.getD q Dat.d0).acts.getD k Dat.d0).kind = 3 → tk = false → R = (true, k, l0.take m, o) := fun h1 h2 h3 => by rw [← hR, drop_cons Dat.d0 h1, freeR, if_neg h2, if_pos (.inr h3)]
    have ex3 : (l.getD q Dat.d0).acts.length ≤ k → R = (true, k, l0.take m, o) := fun h => by rw [← hR, List.drop_eq_nil_of_le h, freeR]
    have ex4 : k < (l.getD q Dat.d0).acts.length → ¬ ((l.getD q Dat.d0).acts.getD k Dat.d0).kind = 3 → ¬ ((l.getD q Dat.d0).acts.getD k Dat.d0).kind = 1 → tk = true → 0 < o.getD ((l.getD q Dat.d0).acts.getD k Dat.d0).n.toNat 0 → R = (false, k, l0.take m, o) := fun h1 h2 h3 h4 h5 => by
      rw [← hR, drop_cons Dat.d0 h1, freeR, if_neg h2, if_neg (by rintro (h | h); exact h3 h; rw [h4] at h; cases h), if_pos h5]
    have nx1 : k < (l.getD q Dat.d0).acts.length → ((l.getD q Dat.d0).acts.getD k Dat.d0).kind = 3 → 0 < m ∧ 0 ≤ ((l.getD q Dat.d0).acts.getD k Dat.d0).n ∧ ((l.getD q Dat.d0).acts.getD k Dat.d0).n < 8 ∧ (∃ r, rgtR (l0.take (m - 1)) r ((l.getD q Dat.d0).acts.drop (k + 1)) = true) ∧ freeR q tk ((l.getD q Dat.d0).acts.drop (k + 1)) (k + 1) (l0.take (m - 1)) (o.set ((l.getD q Dat.d0).acts.getD k Dat.d0).n.toNat 0) = R := fun h1 h2 => by
      rw [drop_cons Dat.d0 h1] at hr
      obtain ⟨r1, r2, r3⟩ := rgt_drop h2 hr
      have e1 : (l0.take m).take ((l0.take m).length - 1) = l0.take (m - 1) := by rw [hlen, List.take_take, show min (m - 1) m = m - 1 by omega]
      have h8 := hn ((l.getD q Dat.d0).acts.getD k Dat.d0).n (by rw [← r2]; exact getD_in (by omega))
      refine ⟨by omega, h8.1, h8.2, ⟨runs, by rw [← e1]; exact r3⟩, ?_⟩
      rw [← hR, drop_cons Dat.d0 h1, freeR, if_pos h2, e1]
    have nx2 : k < (l.getD q Dat.d0).acts.length → ¬ ((l.getD q Dat.d0).acts.getD k Dat.d0).kind = 3 → ¬ ((l.getD q Dat.d0).acts.getD k Dat.d0).kind = 1 → 0 ≤ ((l.getD q Dat.d0).acts.getD k Dat.d0).n ∧ ((l.getD q Dat.d0).acts.getD k Dat.d0).n < 8 := fun h1 h2 h3 => by
      rw [drop_cons Dat.d0 h1] at hr
      rcases rgt_kind hr with h | h | h
      · exact absurd h h3
      · exact ⟨(rgt_take h hr).1, (rgt_take h hr).2.1⟩
      · exact absurd h h2
    have nx3 : k < (l.getD q Dat.d0).acts.length → ¬ ((l.getD q Dat.d0).acts.getD k Dat.d0).kind = 3 → ¬ ((l.getD q Dat.d0).acts.getD k Dat.d0).kind = 1 → tk = true → o.getD ((l.getD q Dat.d0).acts.getD k Dat.d0).n.toNat 0 ≤ 0 → (∃ r, rgtR (l0.take m ++ [((l.getD q Dat.d0).acts.getD k Dat.d0).n]) r ((l.getD q Dat.d0).acts.drop (k + 1)) = true) ∧ freeR q tk ((l.getD q Dat.d0).acts.drop (k + 1)) (k + 1) (l0.take m ++ [((l.getD q Dat.d0).acts.getD k Dat.d0).n]) (o.set ((l.getD q Dat.d0).acts.getD k Dat.d0).n.toNat (q + 1)) = R := fun h1 h2 h3 h4 h5 => by
      rw [drop_cons Dat.d0 h1] at hr
      have hk2 : ((l.getD q Dat.d0).acts.getD k Dat.d0).kind = 2 := by rcases rgt_kind hr with h | h | h; exact absurd h h3; exact h; exact absurd h h2
      refine ⟨⟨false, (rgt_take hk2 hr).2.2⟩, ?_⟩
      rw [← hR, drop_cons Dat.d0 h1, freeR, if_neg h2, if_neg (by rintro (h | h); exact h3 h; rw [h4] at h; cases h), if_neg (by omega)]
    cbv
    repeat' first | (show Stp _; exfalso; first | omega | (exact h ‹_›) | (exact absurd ‹_› h) | (exact Bool.false_ne_true (h.symm.trans (show _ = true by assumption)))) | (refine Stp.mk ?_; cbv) | (refine Gen.mk fun r hr => ?_; (try simp only [Dat.ok, Dat.dec, Leaf.ok, Leaf.val, Act.eta, Work.eta, Locked.eta, val_sl, val_nil] at hr); cbv) | exact trivial | rfl | refine Both.mk ?_ ?_ | (refine Imp.mk fun h => ?_; (try dsimp only at h); (try simp only [nc, Int.toNat_natCast, ne_eq, zz] at h); (try simp only [nc] at h)) | refine Ob.mk ?_ ?_ | refine Chk.mk (by kernel_rfl) ?_ | refine Eq'.mk ?_ | (refine AllN.mk fun i hi => ?_; cbv) | (refine AllC.mk fun c hc hcm => ?_; (try dsimp only at hc); cbv) | (refine AllS.mk fun r hr => ?_; (try simp only [Dat.ok, Dat.dec, Leaf.ok, Leaf.val, Act.eta, Work.eta, Locked.eta, val_sl] at hr); cbv)
    all_goals ((try dsimp only at *); (try simp only [nc, Int.toNat_natCast, ne_eq, zz] at *); (try simp only [nc] at *))
    all_goals try rw [nc] at *
    all_goals first
      | omega
      | (unfold InR; omega)
      | exact ⟨hm, Nat.le_refl _, by omega, by omega⟩
      | (have c0 : k < (l.getD q Dat.d0).acts.length := by omega
         have c1 : ((l.getD q Dat.d0).acts.getD k Dat.d0).kind = 3 := by assumption
         have n1 := nx1 c0 c1
         first
           | omega
           | exact ⟨trivial, by omega, by omega⟩
           | (show (_ : Int).toNat < 8; omega)
           | (refine ⟨⟨k + 1, l0, m - 1, o.set ((l.getD q Dat.d0).acts.getD k Dat.d0).n.toNat 0, by omega, by omega, by omega, by rw [List.length_set]; exact ho, n1.2.2.2.1, fun n h => hn n (List.take_subset_take_left _ (by omega) h), he.trans (hR.trans n1.2.2.2.2.symm)⟩, ?_, ?_, rfl, by (try dsimp only); omega⟩
              · cbv
                repeat' first | (refine Stp.mk ?_; cbv) | (refine Gen.mk fun r hr => ?_; (try simp only [Dat.ok, Dat.dec, Leaf.ok, Leaf.val, Act.eta, Work.eta, Locked.eta, val_sl, val_nil] at hr); cbv) | exact trivial | rfl | refine Both.mk ?_ ?_ | (refine Imp.mk fun h => ?_; (try dsimp only at h); (try simp only [nc, Int.toNat_natCast, ne_eq, zz] at h); (try simp only [nc] at h)) | refine Ob.mk ?_ ?_ | refine Chk.mk (by kernel_rfl) ?_ | refine Eq'.mk ?_ | (refine AllN.mk fun i hi => ?_; cbv) | (refine AllC.mk fun c hc hcm => ?_; (try dsimp only at hc); cbv) | (refine AllS.mk fun r hr => ?_; (try simp only [Dat.ok, Dat.dec, Leaf.ok, Leaf.val, Act.eta, Work.eta, Locked.eta, val_sl] at hr); cbv)
              · cbv
                repeat' first | (refine Stp.mk ?_; cbv) | (refine Gen.mk fun r hr => ?_; (try simp only [Dat.ok, Dat.dec, Leaf.ok, Leaf.val, Act.eta, Work.eta, Locked.eta, val_sl, val_nil] at hr); cbv) | exact trivial | rfl | refine Both.mk ?_ ?_ | (refine Imp.mk fun h => ?_; (try dsimp only at h); (try simp only [nc, Int.toNat_natCast, ne_eq, zz] at h); (try simp only [nc] at h)) | refine Ob.mk ?_ ?_ | refine Chk.mk (by kernel_rfl) ?_ | refine Eq'.mk ?_ | (refine AllN.mk fun i hi => ?_; cbv) | (refine AllC.mk fun c hc hcm => ?_; (try dsimp only at hc); cbv) | (refine AllS.mk fun r hr => ?_; (try simp only [Dat.ok, Dat.dec, Leaf.ok, Leaf.val, Act.eta, Work.eta, Locked.eta, val_sl] at hr); cbv)
                all_goals first | rfl | omega | (show ((m : Int) - 1).toNat = m - 1; omega) | exact own_set (by omega) | fail))
      | (have c0 : k < (l.getD q Dat.d0).acts.length := by omega
         have c1 : ((l.getD q Dat.d0).acts.getD k Dat.d0).kind = 1 := by assumption
         obtain rfl := ex1 c0 c1
         first | rfl | (exact List.length_set.symm) | exact bif_same (fun x => (l.getD x Dat.d0).came) | (exact setW_f (fun x => (x.at_ : Int)) (by assumption) rfl) | (exact setW_f (fun x => x.ran) (by assumption) rfl) | (exact setW_f (fun x => x.h.length) (by assumption) hlen.symm) | (exact setW_c (by assumption) rfl (by assumption)) | (subst_vars; rfl) | fail)
      | (have c0 : (l.getD q Dat.d0).acts.length ≤ k := by omega
         obtain rfl := ex3 c0
         first | rfl | (exact List.length_set.symm) | exact bif_same (fun x => (l.getD x Dat.d0).came) | (exact setW_f (fun x => (x.at_ : Int)) (by assumption) rfl) | (exact setW_f (fun x => x.ran) (by assumption) rfl) | (exact setW_f (fun x => x.h.length) (by assumption) hlen.symm) | (exact setW_c (by assumption) rfl (by assumption)) | (subst_vars; rfl) | fail)
      | (have c0 : k < (l.getD q Dat.d0).acts.length := by omega
         have c1 : ¬ ((l.getD q Dat.d0).acts.getD k Dat.d0).kind = 3 := by assumption
         have c2 : tk = false := by assumption
         obtain rfl := ex2 c0 c1 c2
         first | rfl | (exact List.length_set.symm) | exact bif_same (fun x => (l.getD x Dat.d0).came) | (exact setW_f (fun x => (x.at_ : Int)) (by assumption) rfl) | (exact setW_f (fun x => x.ran) (by assumption) rfl) | (exact setW_f (fun x => x.h.length) (by assumption) hlen.symm) | (exact setW_c (by assumption) rfl (by assumption)) | (subst_vars; rfl) | fail)
      | (have c0 : k < (l.getD q Dat.d0).acts.length := by omega
         have c1 : ¬ ((l.getD q Dat.d0).acts.getD k Dat.d0).kind = 3 := by assumption
         have c2 : ¬ ((l.getD q Dat.d0).acts.getD k Dat.d0).kind = 1 := by assumption
         have n2 := nx2 c0 c1 c2
         first
           | omega
           | (show (_ : Int).toNat < 8; omega)
           | (have c3 : tk = true := by assumption
              have c8 : ((l.getD q Dat.d0).acts.getD k Dat.d0).n.toNat < 8 := by omega
              have c4 : 0 < o.getD ((l.getD q Dat.d0).acts.getD k Dat.d0).n.toNat 0 := own_lt c8 (by assumption)
              obtain rfl := ex4 c0 c1 c2 c3 c4
              first | rfl | (exact List.length_set.symm) | exact bif_same (fun x => (l.getD x Dat.d0).came) | (exact setW_f (fun x => (x.at_ : Int)) (by assumption) rfl) | (exact setW_f (fun x => x.ran) (by assumption) rfl) | (exact setW_f (fun x => x.h.length) (by assumption) hlen.symm) | (exact setW_c (by assumption) rfl (by assumption)) | (subst_vars; rfl) | fail)
           | (have c3 : tk = true := by assumption
              have c8 : ((l.getD q Dat.d0).acts.getD k Dat.d0).n.toNat < 8 := by omega
              have c4 : o.getD ((l.getD q Dat.d0).acts.getD k Dat.d0).n.toNat 0 ≤ 0 := own_le c8 (by assumption)
              have n3 := nx3 c0 c1 c2 c3 c4
              have hl2 : (l0.take m ++ [((l.getD q Dat.d0).acts.getD k Dat.d0).n]).length = m + 1 := by rw [List.length_append, hlen]; rfl
              have e8 : (l0.take m ++ [((l.getD q Dat.d0).acts.getD k Dat.d0).n]).take (m + 1) = l0.take m ++ [((l.getD q Dat.d0).acts.getD k Dat.d0).n] := List.take_of_length_le (by omega)
              refine ⟨⟨k + 1, l0.take m ++ [((l.getD q Dat.d0).acts.getD k Dat.d0).n], m + 1, o.set ((l.getD q Dat.d0).acts.getD k Dat.d0).n.toNat (q + 1), by omega, by omega, by omega, by rw [List.length_set]; exact ho, by rw [e8]; exact n3.1, fun n h => ?_, by rw [e8]; exact he.trans (hR.trans n3.2.symm)⟩, ?_, ?_, rfl, by (try dsimp only); omega⟩
              · rw [e8] at h
                rcases List.mem_append.1 h with h | h
                · exact hn n h
                · rw [List.mem_singleton.1 h]; exact n2
              · cbv
                repeat' first | (refine Stp.mk ?_; cbv) | (refine Gen.mk fun r hr => ?_; (try simp only [Dat.ok, Dat.dec, Leaf.ok, Leaf.val, Act.eta, Work.eta, Locked.eta, val_sl, val_nil] at hr); cbv) | exact trivial | rfl | refine Both.mk ?_ ?_ | (refine Imp.mk fun h => ?_; (try dsimp only at h); (try simp only [nc, Int.toNat_natCast, ne_eq, zz] at h); (try simp only [nc] at h)) | refine Ob.mk ?_ ?_ | refine Chk.mk (by kernel_rfl) ?_ | refine Eq'.mk ?_ | (refine AllN.mk fun i hi => ?_; cbv) | (refine AllC.mk fun c hc hcm => ?_; (try dsimp only at hc); cbv) | (refine AllS.mk fun r hr => ?_; (try simp only [Dat.ok, Dat.dec, Leaf.ok, Leaf.val, Act.eta, Work.eta, Locked.eta, val_sl] at hr); cbv)
              · cbv
                repeat' first | (refine Stp.mk ?_; cbv) | (refine Gen.mk fun r hr => ?_; (try simp only [Dat.ok, Dat.dec, Leaf.ok, Leaf.val, Act.eta, Work.eta, Locked.eta, val_sl, val_nil] at hr); cbv) | exact trivial | rfl | refine Both.mk ?_ ?_ | (refine Imp.mk fun h => ?_; (try dsimp only at h); (try simp only [nc, Int.toNat_natCast, ne_eq, zz] at h); (try simp only [nc] at h)) | refine Ob.mk ?_ ?_ | refine Chk.mk (by kernel_rfl) ?_ | refine Eq'.mk ?_ | (refine AllN.mk fun i hi => ?_; cbv) | (refine AllC.mk fun c hc hcm => ?_; (try dsimp only at hc); cbv) | (refine AllS.mk fun r hr => ?_; (try simp only [Dat.ok, Dat.dec, Leaf.ok, Leaf.val, Act.eta, Work.eta, Locked.eta, val_sl] at hr); cbv)
                all_goals ((try dsimp only at *); (try simp only [nc, Int.toNat_natCast, ne_eq, zz] at *); (try simp only [nc] at *))
                all_goals first | rfl | omega | exact own_set (by omega) | exact hl2.symm | exact snocT hm (by assumption) | fail))
      | fail

end Go.Proofs.Ythbdlihmafcioaa
