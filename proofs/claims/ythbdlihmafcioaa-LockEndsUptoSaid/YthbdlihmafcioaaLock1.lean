/- lock.right, Check: walked. -/
import Derived.Test.YthbdlihmafcioaaLockP
import Derived.Test.YthbdlihmafcioaaConH
set_option linter.all false
namespace Go.Proofs.Ythbdlihmafcioaa
open Go Go.Abs

structure RgX (w : Work) where
  k : Nat
  l : List Int
  m : Nat
  runs : Bool
  hk : k ≤ w.acts.length
  hm : m ≤ l.length
  hl : l.length ≤ k
  hr : rgtR [] false w.acts = rgtR (l.take m) runs (w.acts.drop k)
theorem rgtR_drop {w : Work} {h : List Int} {runs : Bool} {k : Nat} (hk : k < w.acts.length) : rgtR h runs (w.acts.drop k) =
    if (w.acts.getD k Dat.d0).kind = 1 then (if (w.acts.getD k Dat.d0).n < 1 ∨ 100 < (w.acts.getD k Dat.d0).n then false else rgtR h true (w.acts.drop (k + 1)))
    else if (w.acts.getD k Dat.d0).kind = 2 then (if (w.acts.getD k Dat.d0).n < 0 ∨ 8 ≤ (w.acts.getD k Dat.d0).n ∨ (w.acts.getD k Dat.d0).n ∈ h then false else rgtR (h ++ [(w.acts.getD k Dat.d0).n]) false (w.acts.drop (k + 1)))
    else if (w.acts.getD k Dat.d0).kind = 3 then (if h.length = 0 ∨ h.getD (h.length - 1) 0 ≠ (w.acts.getD k Dat.d0).n then false else rgtR (h.take (h.length - 1)) runs (w.acts.drop (k + 1)))
    else false := by
  rw [drop_cons Dat.d0 hk, rgtR]
theorem snocT {l : List Int} {n i : Nat} {x : Int} (hn : n ≤ l.length) (hi : i < n + 1) : (bif decide (i < n) then l.getD i Dat.d0 else x) = (l.take n ++ [x]).getD i Dat.d0 := by
  by_cases h : i < n
  · rw [decide_eq_true h, cond_true]
    simp [List.getD_eq_getElem?_getD, List.getElem?_append, h, hn, show i < l.length by omega]
  · have : i = n := by omega
    subst this
    rw [decide_eq_false h, cond_false]
    simp [List.getD_eq_getElem?_getD, List.getElem?_append, hn]
def dRg : FuncId → Option Dt := fun f => match f with
  | 23 => some (.c conH_D)
  | _ => none
theorem dRg_ok : DetOk Try.prog dRg := fun f d h => by
  unfold dRg at h
  split at h
  · cases h; exact ⟨⟨Try.f23, Try.func23, by kernel_rfl, by kernel_rfl⟩, conH_ok⟩
  · cases h
noncomputable def cRg : FuncId → Con := fun f => match f with
  | 23 => pureCon (detPC conH_D)
  | 24 => inlCon E noCon noDraws [0, 1] Try.f24
  | 25 => inlCon E noCon (draws E dRg) [0] Try.f25
  | _ => fun _ _ _ => Bad 1001
theorem cRg_ok : ConOk Try.prog cRg := fun f A H K h => by
  unfold cRg at h
  split at h
  · exact ⟨⟨Try.f23, Try.func23, by kernel_rfl, by kernel_rfl⟩, pureCon_ok conH_ok h⟩
  · exact ⟨⟨Try.f24, Try.func24, by kernel_rfl, by kernel_rfl⟩, inl_ok envOk zl noCon_ok noDraws_ok Try.func24 h⟩
  · exact ⟨⟨Try.f25, Try.func25, by kernel_rfl, by kernel_rfl⟩, inl_ok envOk zl noCon_ok (draws_ok envOk zl dRg_ok mixed) Try.func25 h⟩
  · cases h
def rightC_R (r : Th (Bool)) : AV := .b fun _ => (r ())
def rightC_P (w : Work) : Prop := w.acts.length ≤ 1000
def rightC_D : Det := fun A => match A with
  | [.agg w] => some (fun _ => Dat.ok Work w ∧ rightC_P (Dat.dec w), rightC_R fun _ => rgtV (Dat.dec w))
  | _ => none
set_option maxRecDepth 100000 in
set_option maxHeartbeats 4000000 in
theorem rightC_vc (w : Work) (hp : rightC_P w) : FnOk Try.prog 18 [.agg (Dat.enc fun _ => w)] [] (outA (rightC_R fun _ => rgtV w) []) := by
  refine fn_ok envOk zl cRg_ok (draws_ok envOk zl dRg_ok mixed) (keep := [0, 1, 2, 3, 4, 6, 8, 9, 10, 11, 15, 16, 25, 26, 41, 45, 60]) Try.func18 rfl ?_
  have hp' : w.acts.length ≤ 1000 := hp
  have fin : ∀ (e : Bool) H kl, rgtV w = e → outA (rightC_R fun _ => rgtV w) [] (.b fun _ => e) H kl := fun e H kl h => by
    rw [h]
    cbv
    repeat' first | (refine Stp.mk ?_; cbv) | (refine Gen.mk fun r hr => ?_; (try simp only [Dat.ok, Dat.dec, Leaf.ok, Leaf.val, Act.eta, Work.eta, Locked.eta, val_sl, val_nil] at hr); cbv) | exact trivial | rfl | refine Both.mk ?_ ?_ | (refine Imp.mk fun h => ?_; (try dsimp only at h); (try simp only [nc, Int.toNat_natCast, ne_eq, zz] at h); (try simp only [nc] at h)) | refine Ob.mk ?_ ?_ | refine Chk.mk (by kernel_rfl) ?_ | refine Eq'.mk ?_ | (refine AllN.mk fun i hi => ?_; cbv) | (refine AllC.mk fun c hc hcm => ?_; (try dsimp only at hc); cbv) | (refine AllS.mk fun r hr => ?_; (try simp only [Dat.ok, Dat.dec, Leaf.ok, Leaf.val, Act.eta, Work.eta, Locked.eta, val_sl] at hr); cbv)
  have fin0 : ∀ H kl, rgtV w = false → outA (rightC_R fun _ => rgtV w) [] (.bc false) H kl := fun H kl h => by
    rw [h]
    cbv
    repeat' first | (refine Stp.mk ?_; cbv) | (refine Gen.mk fun r hr => ?_; (try simp only [Dat.ok, Dat.dec, Leaf.ok, Leaf.val, Act.eta, Work.eta, Locked.eta, val_sl, val_nil] at hr); cbv) | exact trivial | rfl | refine Both.mk ?_ ?_ | (refine Imp.mk fun h => ?_; (try dsimp only at h); (try simp only [nc, Int.toNat_natCast, ne_eq, zz] at h); (try simp only [nc] at h)) | refine Ob.mk ?_ ?_ | refine Chk.mk (by kernel_rfl) ?_ | refine Eq'.mk ?_ | (refine AllN.mk fun i hi => ?_; cbv) | (refine AllC.mk fun c hc hcm => ?_; (try dsimp only at hc); cbv) | (refine AllS.mk fun r hr => ?_; (try simp only [Dat.ok, Dat.dec, Leaf.ok, Leaf.val, Act.eta, Work.eta, Locked.eta, val_sl] at hr); cbv)
  generalize outA (rightC_R fun _ => rgtV w) [] = K at fin fin0 ⊢
  cbv
  repeat' first | (show Stp _; exfalso; first | omega | (exact h ‹_›) | (exact absurd ‹_› h) | (exact Bool.false_ne_true (h.symm.trans (show _ = true by assumption)))) | (refine Stp.mk ?_; cbv) | (refine Gen.mk fun r hr => ?_; (try simp only [Dat.ok, Dat.dec, Leaf.ok, Leaf.val, Act.eta, Work.eta, Locked.eta, val_sl, val_nil] at hr); cbv) | exact trivial | rfl | refine Both.mk ?_ ?_ | (refine Imp.mk fun h => ?_; (try dsimp only at h); (try simp only [nc, Int.toNat_natCast, ne_eq, zz] at h); (try simp only [nc] at h)) | refine Ob.mk ?_ ?_ | refine Chk.mk (by kernel_rfl) ?_ | refine Eq'.mk ?_ | (refine AllN.mk fun i hi => ?_; cbv) | (refine AllC.mk fun c hc hcm => ?_; (try dsimp only at hc); cbv) | (refine AllS.mk fun r hr => ?_; (try simp only [Dat.ok, Dat.dec, Leaf.ok, Leaf.val, Act.eta, Work.eta, Locked.eta, val_sl] at hr); cbv)
  all_goals ((try dsimp only at *); (try simp only [nc, Int.toNat_natCast, ne_eq, zz] at *); (try simp only [nc] at *))
  refine LoopVC.frame [2, 4, 6, 10, 11, 15, 16, 25, 26, 41, 45, 60] (RgX w) (fun x => [(10, .i .i64 fun _ => x.k), (4, .b fun _ => x.runs)]) (fun x => [(1, .blk [.own 2 fun _ => x.m]), (2, vecO 3 fun _ => x.l)]) [2] (fun x => w.acts.length - x.k) ⟨0, [], 0, false, Nat.zero_le _, Nat.le_refl _, Nat.le_refl _, by rw [List.drop_zero]; rfl⟩ rfl (fun _ => rfl) ?_ ?_ fun ⟨k, l, m, runs, hk, hm, hl, hr⟩ => ?_
  iterate 2
    · cbv
      repeat' first | (refine Stp.mk ?_; cbv) | (refine Gen.mk fun r hr => ?_; (try simp only [Dat.ok, Dat.dec, Leaf.ok, Leaf.val, Act.eta, Work.eta, Locked.eta, val_sl, val_nil] at hr); cbv) | exact trivial | rfl | refine Both.mk ?_ ?_ | (refine Imp.mk fun h => ?_; (try dsimp only at h); (try simp only [nc, Int.toNat_natCast, ne_eq, zz] at h); (try simp only [nc] at h)) | refine Ob.mk ?_ ?_ | refine Chk.mk (by kernel_rfl) ?_ | refine Eq'.mk ?_ | (refine AllN.mk fun i hi => ?_; cbv) | (refine AllC.mk fun c hc hcm => ?_; (try dsimp only at hc); cbv) | (refine AllS.mk fun r hr => ?_; (try simp only [Dat.ok, Dat.dec, Leaf.ok, Leaf.val, Act.eta, Work.eta, Locked.eta, val_sl] at hr); cbv)
  · have bad : k < w.acts.length → rgtR (l.take m) runs (w.acts.drop k) = false → rgtV w = false := fun _ h => by rw [rgtV, hr, h, Bool.and_false]
    have st := rgtR_drop (w := w) (h := l.take m) (runs := runs) (k := k)
    have hlen : (l.take m).length = m := by rw [List.length_take]; omega
    have hlast : 0 < m → (l.take m).getD ((l.take m).length - 1) 0 = l.getD ((m : Int) - 1).toNat Dat.d0 := fun h0 => by
      rw [hlen, show ((m : Int) - 1).toNat = m - 1 by omega]
      simp [List.getD_eq_getElem?_getD, List.getElem?_take, show m - 1 < m by omega]
      rfl
    cbv
    repeat' first | (show Stp _; exfalso; first | omega | (exact h ‹_›) | (exact absurd ‹_› h) | (exact Bool.false_ne_true (h.symm.trans (show _ = true by assumption)))) | (refine Stp.mk ?_; cbv) | (refine Gen.mk fun r hr => ?_; (try simp only [Dat.ok, Dat.dec, Leaf.ok, Leaf.val, Act.eta, Work.eta, Locked.eta, val_sl, val_nil] at hr); cbv) | exact trivial | rfl | refine Both.mk ?_ ?_ | (refine Imp.mk fun h => ?_; (try dsimp only at h); (try simp only [nc, Int.toNat_natCast, ne_eq, zz] at h); (try simp only [nc] at h)) | refine Ob.mk ?_ ?_ | refine Chk.mk (by kernel_rfl) ?_ | refine Eq'.mk ?_ | (refine AllN.mk fun i hi => ?_; cbv) | (refine AllC.mk fun c hc hcm => ?_; (try dsimp only at hc); cbv) | (refine AllS.mk fun r hr => ?_; (try simp only [Dat.ok, Dat.dec, Leaf.ok, Leaf.val, Act.eta, Work.eta, Locked.eta, val_sl] at hr); cbv)
    all_goals ((try dsimp only at *); (try simp only [nc, Int.toNat_natCast, ne_eq, zz] at *); (try simp only [nc] at *))
    all_goals try rw [nc] at *
    all_goals try simp only [Dat.dec, Leaf.val, Act.eta, Work.eta, Locked.eta, val_take l 1 m hm] at *
    all_goals first
      | omega
      | exact ⟨⟨rfl, fun i _ => Dat.hok _⟩, (by show (l.take m).length ≤ 9223372036854775807; omega)⟩
      | (unfold InR; omega)
      | exact ⟨hm, Nat.le_refl _, by omega, by omega⟩
      | exact ⟨trivial, by omega, by omega⟩
      | (have hk2 : k < w.acts.length := by omega
         refine fin0 _ _ (bad hk2 ?_)
         rw [st hk2]
         first
           | rw [if_pos (by assumption), if_pos (by omega)]
           | (rw [if_neg (by omega), if_pos (by omega), if_pos (.inl (by omega))]; done)
           | (rw [if_neg (by omega), if_pos (by omega), if_pos (.inr (.inl (by omega)))]; done)
           | (rw [if_neg (by omega), if_pos (by omega), if_pos (.inr (.inr (of_decide_eq_true (by assumption))))]; done)
           | (rw [if_neg (by omega), if_neg (by omega), if_pos (by omega), if_pos (.inl (by omega))]; done)
           | (rw [if_neg (by omega), if_neg (by omega), if_pos (by omega), if_pos (.inr (by rw [hlast (by omega)]; assumption))]; done)
           | (rw [if_neg (by omega), if_neg (by omega), if_neg (by omega)]; done))
      | (refine fin0 _ _ ?_
         rw [rgtV]
         first
           | (rw [decide_eq_false (by omega : ¬ 0 ≤ w.came)]; rfl)
           | (rw [decide_eq_false (by omega : ¬ w.came ≤ 1000), Bool.and_false]; rfl)
           | (rw [hr, List.drop_eq_nil_of_le (by omega), rgtR, show runs = false by assumption]; simp; done))
      | (refine fin _ _ _ ?_
         rw [rgtV, hr, List.drop_eq_nil_of_le (by omega), rgtR, show runs = true by assumption, decide_eq_true (by omega : 0 ≤ w.came), decide_eq_true (by omega : w.came ≤ 1000), hlen]
         show decide (m = 0) = decide ((m : Int) = 0)
         exact decide_eq_decide.2 (by omega))
      | (have hk2 : k < w.acts.length := by omega
         have st2 : rgtR (l.take m) runs (w.acts.drop k) = rgtR (l.take m) true (w.acts.drop (k + 1)) := by rw [st hk2, if_pos (by assumption), if_neg (by omega)]
         refine ⟨⟨k + 1, l, m, true, by omega, hm, by omega, by rw [hr, st2]⟩, ?_, ?_, rfl, by (try dsimp only); omega⟩
         · cbv
           repeat' first | (refine Stp.mk ?_; cbv) | (refine Gen.mk fun r hr => ?_; (try simp only [Dat.ok, Dat.dec, Leaf.ok, Leaf.val, Act.eta, Work.eta, Locked.eta, val_sl, val_nil] at hr); cbv) | exact trivial | rfl | refine Both.mk ?_ ?_ | (refine Imp.mk fun h => ?_; (try dsimp only at h); (try simp only [nc, Int.toNat_natCast, ne_eq, zz] at h); (try simp only [nc] at h)) | refine Ob.mk ?_ ?_ | refine Chk.mk (by kernel_rfl) ?_ | refine Eq'.mk ?_ | (refine AllN.mk fun i hi => ?_; cbv) | (refine AllC.mk fun c hc hcm => ?_; (try dsimp only at hc); cbv) | (refine AllS.mk fun r hr => ?_; (try simp only [Dat.ok, Dat.dec, Leaf.ok, Leaf.val, Act.eta, Work.eta, Locked.eta, val_sl] at hr); cbv)
         · cbv
           repeat' first | (refine Stp.mk ?_; cbv) | (refine Gen.mk fun r hr => ?_; (try simp only [Dat.ok, Dat.dec, Leaf.ok, Leaf.val, Act.eta, Work.eta, Locked.eta, val_sl, val_nil] at hr); cbv) | exact trivial | rfl | refine Both.mk ?_ ?_ | (refine Imp.mk fun h => ?_; (try dsimp only at h); (try simp only [nc, Int.toNat_natCast, ne_eq, zz] at h); (try simp only [nc] at h)) | refine Ob.mk ?_ ?_ | refine Chk.mk (by kernel_rfl) ?_ | refine Eq'.mk ?_ | (refine AllN.mk fun i hi => ?_; cbv) | (refine AllC.mk fun c hc hcm => ?_; (try dsimp only at hc); cbv) | (refine AllS.mk fun r hr => ?_; (try simp only [Dat.ok, Dat.dec, Leaf.ok, Leaf.val, Act.eta, Work.eta, Locked.eta, val_sl] at hr); cbv))
      | (have hk2 : k < w.acts.length := by omega
         have st2 : rgtR (l.take m) runs (w.acts.drop k) = rgtR (l.take (m - 1)) runs (w.acts.drop (k + 1)) := by
           rw [st hk2, if_neg (by omega), if_neg (by omega), if_pos (by omega), if_neg]
           · rw [hlen, List.take_take, show min (m - 1) m = m - 1 by omega]
           · rintro (h | h)
             · omega
             · exact h (by rw [hlast (by omega)]; assumption)
         refine ⟨⟨k + 1, l, m - 1, runs, by omega, by omega, by omega, by rw [hr, st2]⟩, ?_, ?_, rfl, by (try dsimp only); omega⟩
         · cbv
           repeat' first | (refine Stp.mk ?_; cbv) | (refine Gen.mk fun r hr => ?_; (try simp only [Dat.ok, Dat.dec, Leaf.ok, Leaf.val, Act.eta, Work.eta, Locked.eta, val_sl, val_nil] at hr); cbv) | exact trivial | rfl | refine Both.mk ?_ ?_ | (refine Imp.mk fun h => ?_; (try dsimp only at h); (try simp only [nc, Int.toNat_natCast, ne_eq, zz] at h); (try simp only [nc] at h)) | refine Ob.mk ?_ ?_ | refine Chk.mk (by kernel_rfl) ?_ | refine Eq'.mk ?_ | (refine AllN.mk fun i hi => ?_; cbv) | (refine AllC.mk fun c hc hcm => ?_; (try dsimp only at hc); cbv) | (refine AllS.mk fun r hr => ?_; (try simp only [Dat.ok, Dat.dec, Leaf.ok, Leaf.val, Act.eta, Work.eta, Locked.eta, val_sl] at hr); cbv)
           all_goals first | rfl | omega | fail
         · cbv
           repeat' first | (refine Stp.mk ?_; cbv) | (refine Gen.mk fun r hr => ?_; (try simp only [Dat.ok, Dat.dec, Leaf.ok, Leaf.val, Act.eta, Work.eta, Locked.eta, val_sl, val_nil] at hr); cbv) | exact trivial | rfl | refine Both.mk ?_ ?_ | (refine Imp.mk fun h => ?_; (try dsimp only at h); (try simp only [nc, Int.toNat_natCast, ne_eq, zz] at h); (try simp only [nc] at h)) | refine Ob.mk ?_ ?_ | refine Chk.mk (by kernel_rfl) ?_ | refine Eq'.mk ?_ | (refine AllN.mk fun i hi => ?_; cbv) | (refine AllC.mk fun c hc hcm => ?_; (try dsimp only at hc); cbv) | (refine AllS.mk fun r hr => ?_; (try simp only [Dat.ok, Dat.dec, Leaf.ok, Leaf.val, Act.eta, Work.eta, Locked.eta, val_sl] at hr); cbv)
           all_goals ((try dsimp only at *); (try simp only [nc, Int.toNat_natCast, ne_eq, zz] at *); (try simp only [nc] at *))
           all_goals first | rfl | omega | fail)
      | (have hk2 : k < w.acts.length := by omega
         have hno : ¬ (w.acts.getD k Dat.d0).n ∈ l.take m := of_decide_eq_false (by assumption)
         have st2 : rgtR (l.take m) runs (w.acts.drop k) = rgtR (l.take m ++ [(w.acts.getD k Dat.d0).n]) false (w.acts.drop (k + 1)) := by rw [st hk2, if_neg (by omega), if_pos (by omega), if_neg (by rintro (h | h | h) <;> first | omega | exact hno h)]
         have hl2 : (l.take m ++ [(w.acts.getD k Dat.d0).n]).length = m + 1 := by rw [List.length_append, hlen]; rfl
         refine ⟨⟨k + 1, l.take m ++ [(w.acts.getD k Dat.d0).n], m + 1, false, by omega, by omega, by omega, by rw [hr, st2, List.take_of_length_le (l := l.take m ++ [(w.acts.getD k Dat.d0).n]) (by omega)]⟩, ?_, ?_, rfl, by (try dsimp only); omega⟩
         · cbv
           repeat' first | (refine Stp.mk ?_; cbv) | (refine Gen.mk fun r hr => ?_; (try simp only [Dat.ok, Dat.dec, Leaf.ok, Leaf.val, Act.eta, Work.eta, Locked.eta, val_sl, val_nil] at hr); cbv) | exact trivial | rfl | refine Both.mk ?_ ?_ | (refine Imp.mk fun h => ?_; (try dsimp only at h); (try simp only [nc, Int.toNat_natCast, ne_eq, zz] at h); (try simp only [nc] at h)) | refine Ob.mk ?_ ?_ | refine Chk.mk (by kernel_rfl) ?_ | refine Eq'.mk ?_ | (refine AllN.mk fun i hi => ?_; cbv) | (refine AllC.mk fun c hc hcm => ?_; (try dsimp only at hc); cbv) | (refine AllS.mk fun r hr => ?_; (try simp only [Dat.ok, Dat.dec, Leaf.ok, Leaf.val, Act.eta, Work.eta, Locked.eta, val_sl] at hr); cbv)
           all_goals first | rfl | exact hl2.symm | fail
         · cbv
           repeat' first | (refine Stp.mk ?_; cbv) | (refine Gen.mk fun r hr => ?_; (try simp only [Dat.ok, Dat.dec, Leaf.ok, Leaf.val, Act.eta, Work.eta, Locked.eta, val_sl, val_nil] at hr); cbv) | exact trivial | rfl | refine Both.mk ?_ ?_ | (refine Imp.mk fun h => ?_; (try dsimp only at h); (try simp only [nc, Int.toNat_natCast, ne_eq, zz] at h); (try simp only [nc] at h)) | refine Ob.mk ?_ ?_ | refine Chk.mk (by kernel_rfl) ?_ | refine Eq'.mk ?_ | (refine AllN.mk fun i hi => ?_; cbv) | (refine AllC.mk fun c hc hcm => ?_; (try dsimp only at hc); cbv) | (refine AllS.mk fun r hr => ?_; (try simp only [Dat.ok, Dat.dec, Leaf.ok, Leaf.val, Act.eta, Work.eta, Locked.eta, val_sl] at hr); cbv)
           all_goals ((try dsimp only at *); (try simp only [nc, Int.toNat_natCast, ne_eq, zz] at *); (try simp only [nc] at *))
           all_goals first | rfl | exact hl2.symm | (exact congrArg _ (snocT hm (by assumption))) | (exact snocT hm (by assumption)) | fail)
theorem rightC_ok : PcOk Try.prog 18 (detPC rightC_D) := det_okA fun A p r h hp0 => by
  unfold rightC_D at h
  split at h
  · rename_i w
    cases h
    obtain ⟨g0, hp⟩ := hp0
    exact ⟨rfl, FnOk.pre (A' := [.agg (Dat.enc fun _ => (Dat.dec w : Work))]) (rightC_vc (Dat.dec w) hp) (.mk (Dat.hle _ g0) (trivial))⟩
  · cases h
structure CkX (f : Work → Bool) (l : List Work) where
  k : Nat
  hk : k ≤ l.length
  ha : (l.take k).any f = false
theorem anyW_take {f : Work → Bool} {l : List Work} {k : Nat} (hk : k < l.length) (h : (l.take k).any f = false) (h2 : f (l.getD k Dat.d0) = false) : (l.take (k + 1)).any f = false := by
  rw [List.take_add_one, List.getElem?_eq_getElem hk, List.any_append, h]
  rw [List.getD_eq_getElem?_getD, List.getElem?_eq_getElem hk] at h2
  simpa using h2
theorem anyW_at {f : Work → Bool} {l : List Work} {k : Nat} (hk : k < l.length) (h2 : f (l.getD k Dat.d0) = true) : l.any f = true := by
  rw [List.getD_eq_getElem?_getD, List.getElem?_eq_getElem hk] at h2
  exact List.any_eq_true.2 ⟨_, List.getElem_mem hk, h2⟩
theorem anyW_get {f : Work → Bool} {l : List Work} {k : Nat} (hk : k < l.length) (h : l.any f = false) : f (l.getD k Dat.d0) = false := by
  rw [List.getD_eq_getElem?_getD, List.getElem?_eq_getElem hk]
  simpa using List.any_eq_false.1 h _ (List.getElem_mem hk)
noncomputable def cCk9 : FuncId → Con := fun f => match f with
  | 18 => pureCon (detPC rightC_D)
  | _ => fun _ _ _ => Bad 1001
theorem cCk9_ok : ConOk Try.prog cCk9 := fun f A H K h => by
  unfold cCk9 at h
  split at h
  · exact ⟨⟨Try.f18, Try.func18, by kernel_rfl, by kernel_rfl⟩, pureCon_ok rightC_ok h⟩
  · cases h
noncomputable def cCk0 : FuncId → Con := fun f => match f with
  | 16 => inlCon E noCon noDraws [0, 1, 2] Try.f16
  | 17 => inlCon E cCk9 noDraws [0, 1, 2] Try.f17
  | _ => fun _ _ _ => Bad 1001
theorem cCk0_ok : ConOk Try.prog cCk0 := fun f A H K h => by
  unfold cCk0 at h
  split at h
  · exact ⟨⟨Try.f16, Try.func16, by kernel_rfl, by kernel_rfl⟩, inl_ok envOk zl noCon_ok noDraws_ok Try.func16 h⟩
  · exact ⟨⟨Try.f17, Try.func17, by kernel_rfl, by kernel_rfl⟩, inl_ok envOk zl cCk9_ok noDraws_ok Try.func17 h⟩
  · cases h
noncomputable def cCk1 : FuncId → Con := fun f => match f with
  | 22 => inlCon E cCk0 noDraws [0, 1, 4, 5, 7, 8, 9, 16] Try.f22
  | _ => fun _ _ _ => Bad 1001
theorem cCk1_ok : ConOk Try.prog cCk1 := fun f A H K h => by
  unfold cCk1 at h
  split at h
  · exact ⟨⟨Try.f22, Try.func22, by kernel_rfl, by kernel_rfl⟩, inl_ok envOk zl cCk0_ok noDraws_ok Try.func22 h⟩
  · cases h
noncomputable def cCk : FuncId → Con := fun f => match f with
  | 15 => inlCon E cCk1 noDraws [0, 1, 4] Try.f15
  | _ => fun _ _ _ => Bad 1001
theorem cCk_ok : ConOk Try.prog cCk := fun f A H K h => by
  unfold cCk at h
  split at h
  · exact ⟨⟨Try.f15, Try.func15, by kernel_rfl, by kernel_rfl⟩, inl_ok envOk zl cCk1_ok noDraws_ok Try.func15 h⟩
  · cases h
def lckC_R (r : Th (Int)) : AV := .i .i64 fun _ => (r ())
def lckC_P (l : (List Work)) : Prop := l.length ≤ 9223372036854775807
def lckC_D : Det := fun A => match A with
  | [l] => some (fun _ => Leaf.ok (List Work) l ∧ lckC_P (Leaf.val l), lckC_R fun _ => lckV (Leaf.val l))
  | _ => none
set_option maxRecDepth 100000 in
set_option maxHeartbeats 4000000 in
theorem lckC_vc (l : (List Work)) (hp : lckC_P l) : FnOk Try.prog 12 [Leaf.av fun _ => l] [] (outA (lckC_R fun _ => lckV l) []) := by
  refine fn_ok envOk zl cCk_ok noDraws_ok (keep := [0, 2, 9, 11]) Try.func12 rfl ?_
  have hp' : l.length ≤ 9223372036854775807 := hp
  have fin : ∀ (e : Int) H kl, lckV l = e → outA (lckC_R fun _ => lckV l) [] (.i .i64 fun _ => e) H kl := fun e H kl h => by
    rw [h]
    cbv
    repeat' first | (refine Stp.mk ?_; cbv) | (refine Gen.mk fun r hr => ?_; (try simp only [Dat.ok, Dat.dec, Leaf.ok, Leaf.val, Act.eta, Work.eta, Locked.eta, val_sl, val_nil] at hr); cbv) | exact trivial | rfl | refine Both.mk ?_ ?_ | (refine Imp.mk fun h => ?_; (try dsimp only at h); (try simp only [nc, Int.toNat_natCast, ne_eq, zz] at h); (try simp only [nc] at h)) | refine Ob.mk ?_ ?_ | refine Chk.mk (by kernel_rfl) ?_ | refine Eq'.mk ?_ | (refine AllN.mk fun i hi => ?_; cbv) | (refine AllC.mk fun c hc hcm => ?_; (try dsimp only at hc); cbv) | (refine AllS.mk fun r hr => ?_; (try simp only [Dat.ok, Dat.dec, Leaf.ok, Leaf.val, Act.eta, Work.eta, Locked.eta, val_sl] at hr); cbv)
  generalize outA (lckC_R fun _ => lckV l) [] = K at fin ⊢
  cbv
  repeat' first | (show Stp _; exfalso; first | omega | (exact h ‹_›) | (exact absurd ‹_› h) | (exact Bool.false_ne_true (h.symm.trans (show _ = true by assumption)))) | (refine Stp.mk ?_; cbv) | (refine Gen.mk fun r hr => ?_; (try simp only [Dat.ok, Dat.dec, Leaf.ok, Leaf.val, Act.eta, Work.eta, Locked.eta, val_sl, val_nil] at hr); cbv) | exact trivial | rfl | refine Both.mk ?_ ?_ | (refine Imp.mk fun h => ?_; (try dsimp only at h); (try simp only [nc, Int.toNat_natCast, ne_eq, zz] at h); (try simp only [nc] at h)) | refine Ob.mk ?_ ?_ | refine Chk.mk (by kernel_rfl) ?_ | refine Eq'.mk ?_ | (refine AllN.mk fun i hi => ?_; cbv) | (refine AllC.mk fun c hc hcm => ?_; (try dsimp only at hc); cbv) | (refine AllS.mk fun r hr => ?_; (try simp only [Dat.ok, Dat.dec, Leaf.ok, Leaf.val, Act.eta, Work.eta, Locked.eta, val_sl] at hr); cbv)
  all_goals ((try dsimp only at *); (try simp only [nc, Int.toNat_natCast, ne_eq, zz] at *); (try simp only [nc] at *))
  all_goals first
    | (refine fin _ _ _ ?_
       rw [lckV, if_pos (.inl (by omega))]
       done)
    | skip
  have h8 : l.length ≤ 8 := by omega
  refine LoopVC.frame [4, 5, 8, 9, 16] (CkX longW l) (fun x => [(8, .i .i64 fun _ => x.k)]) (fun _ => []) [] (fun x => l.length - x.k) ⟨0, Nat.zero_le _, rfl⟩ rfl (fun _ => rfl) ?_ ?_ fun ⟨k, hk, ha⟩ => ?_
  iterate 2
    · cbv
      repeat' first | (refine Stp.mk ?_; cbv) | (refine Gen.mk fun r hr => ?_; (try simp only [Dat.ok, Dat.dec, Leaf.ok, Leaf.val, Act.eta, Work.eta, Locked.eta, val_sl, val_nil] at hr); cbv) | exact trivial | rfl | refine Both.mk ?_ ?_ | (refine Imp.mk fun h => ?_; (try dsimp only at h); (try simp only [nc, Int.toNat_natCast, ne_eq, zz] at h); (try simp only [nc] at h)) | refine Ob.mk ?_ ?_ | refine Chk.mk (by kernel_rfl) ?_ | refine Eq'.mk ?_ | (refine AllN.mk fun i hi => ?_; cbv) | (refine AllC.mk fun c hc hcm => ?_; (try dsimp only at hc); cbv) | (refine AllS.mk fun r hr => ?_; (try simp only [Dat.ok, Dat.dec, Leaf.ok, Leaf.val, Act.eta, Work.eta, Locked.eta, val_sl] at hr); cbv)
  · cbv
    repeat' first | (show Stp _; exfalso; first | omega | (exact h ‹_›) | (exact absurd ‹_› h) | (exact Bool.false_ne_true (h.symm.trans (show _ = true by assumption)))) | (refine Stp.mk ?_; cbv) | (refine Gen.mk fun r hr => ?_; (try simp only [Dat.ok, Dat.dec, Leaf.ok, Leaf.val, Act.eta, Work.eta, Locked.eta, val_sl, val_nil] at hr); cbv) | exact trivial | rfl | refine Both.mk ?_ ?_ | (refine Imp.mk fun h => ?_; (try dsimp only at h); (try simp only [nc, Int.toNat_natCast, ne_eq, zz] at h); (try simp only [nc] at h)) | refine Ob.mk ?_ ?_ | refine Chk.mk (by kernel_rfl) ?_ | refine Eq'.mk ?_ | (refine AllN.mk fun i hi => ?_; cbv) | (refine AllC.mk fun c hc hcm => ?_; (try dsimp only at hc); cbv) | (refine AllS.mk fun r hr => ?_; (try simp only [Dat.ok, Dat.dec, Leaf.ok, Leaf.val, Act.eta, Work.eta, Locked.eta, val_sl] at hr); cbv)
    all_goals ((try dsimp only at *); (try simp only [nc, Int.toNat_natCast, ne_eq, zz] at *); (try simp only [nc] at *))
    all_goals try rw [nc] at *
    all_goals first
      | omega
      | (unfold InR; omega)
      | (have hk2 : k < l.length := by omega
         have hw : longW (l.getD k Dat.d0) = true := decide_eq_true (by omega)
         refine fin _ _ _ ?_
         rw [lckV, if_pos (.inr (anyW_at hk2 hw))]
         done)
      | (have hk2 : k < l.length := by omega
         refine ⟨⟨k + 1, by omega, anyW_take hk2 ha (decide_eq_false (by omega))⟩, ?_, ?_, rfl, by (try dsimp only); omega⟩
         · cbv
           repeat' first | (refine Stp.mk ?_; cbv) | (refine Gen.mk fun r hr => ?_; (try simp only [Dat.ok, Dat.dec, Leaf.ok, Leaf.val, Act.eta, Work.eta, Locked.eta, val_sl, val_nil] at hr); cbv) | exact trivial | rfl | refine Both.mk ?_ ?_ | (refine Imp.mk fun h => ?_; (try dsimp only at h); (try simp only [nc, Int.toNat_natCast, ne_eq, zz] at h); (try simp only [nc] at h)) | refine Ob.mk ?_ ?_ | refine Chk.mk (by kernel_rfl) ?_ | refine Eq'.mk ?_ | (refine AllN.mk fun i hi => ?_; cbv) | (refine AllC.mk fun c hc hcm => ?_; (try dsimp only at hc); cbv) | (refine AllS.mk fun r hr => ?_; (try simp only [Dat.ok, Dat.dec, Leaf.ok, Leaf.val, Act.eta, Work.eta, Locked.eta, val_sl] at hr); cbv)
         · cbv
           repeat' first | (refine Stp.mk ?_; cbv) | (refine Gen.mk fun r hr => ?_; (try simp only [Dat.ok, Dat.dec, Leaf.ok, Leaf.val, Act.eta, Work.eta, Locked.eta, val_sl, val_nil] at hr); cbv) | exact trivial | rfl | refine Both.mk ?_ ?_ | (refine Imp.mk fun h => ?_; (try dsimp only at h); (try simp only [nc, Int.toNat_natCast, ne_eq, zz] at h); (try simp only [nc] at h)) | refine Ob.mk ?_ ?_ | refine Chk.mk (by kernel_rfl) ?_ | refine Eq'.mk ?_ | (refine AllN.mk fun i hi => ?_; cbv) | (refine AllC.mk fun c hc hcm => ?_; (try dsimp only at hc); cbv) | (refine AllS.mk fun r hr => ?_; (try simp only [Dat.ok, Dat.dec, Leaf.ok, Leaf.val, Act.eta, Work.eta, Locked.eta, val_sl] at hr); cbv))
      | skip
    have hall : l.any longW = false := by rwa [List.take_of_length_le (by omega)] at ha
    have hlen : ∀ i, i < l.length → (l.getD i Dat.d0).acts.length ≤ 30 := fun i hi => by
      have := of_decide_eq_false (anyW_get hi hall)
      omega
    have e1 : lckV l = if l.any badW = true then 4 else 0 := by rw [lckV, if_neg]; rintro (h | h); omega; rw [hall] at h; cases h
    refine LoopVC.frame [4, 5, 8, 9, 16] (CkX badW l) (fun x => [(8, .i .i64 fun _ => x.k)]) (fun _ => []) [] (fun x => l.length - x.k) ⟨0, Nat.zero_le _, rfl⟩ rfl (fun _ => rfl) ?_ ?_ fun ⟨p, hp2, ha2⟩ => ?_
    iterate 2
      · cbv
        repeat' first | (refine Stp.mk ?_; cbv) | (refine Gen.mk fun r hr => ?_; (try simp only [Dat.ok, Dat.dec, Leaf.ok, Leaf.val, Act.eta, Work.eta, Locked.eta, val_sl, val_nil] at hr); cbv) | exact trivial | rfl | refine Both.mk ?_ ?_ | (refine Imp.mk fun h => ?_; (try dsimp only at h); (try simp only [nc, Int.toNat_natCast, ne_eq, zz] at h); (try simp only [nc] at h)) | refine Ob.mk ?_ ?_ | refine Chk.mk (by kernel_rfl) ?_ | refine Eq'.mk ?_ | (refine AllN.mk fun i hi => ?_; cbv) | (refine AllC.mk fun c hc hcm => ?_; (try dsimp only at hc); cbv) | (refine AllS.mk fun r hr => ?_; (try simp only [Dat.ok, Dat.dec, Leaf.ok, Leaf.val, Act.eta, Work.eta, Locked.eta, val_sl] at hr); cbv)
    · have h30 := hlen p
      cbv
      repeat' first | (show Stp _; exfalso; first | omega | (exact h ‹_›) | (exact absurd ‹_› h) | (exact Bool.false_ne_true (h.symm.trans (show _ = true by assumption)))) | (refine Stp.mk ?_; cbv) | (refine Gen.mk fun r hr => ?_; (try simp only [Dat.ok, Dat.dec, Leaf.ok, Leaf.val, Act.eta, Work.eta, Locked.eta, val_sl, val_nil] at hr); cbv) | exact trivial | rfl | refine Both.mk ?_ ?_ | (refine Imp.mk fun h => ?_; (try dsimp only at h); (try simp only [nc, Int.toNat_natCast, ne_eq, zz] at h); (try simp only [nc] at h)) | refine Ob.mk ?_ ?_ | refine Chk.mk (by kernel_rfl) ?_ | refine Eq'.mk ?_ | (refine AllN.mk fun i hi => ?_; cbv) | (refine AllC.mk fun c hc hcm => ?_; (try dsimp only at hc); cbv) | (refine AllS.mk fun r hr => ?_; (try simp only [Dat.ok, Dat.dec, Leaf.ok, Leaf.val, Act.eta, Work.eta, Locked.eta, val_sl] at hr); cbv)
      all_goals ((try dsimp only at *); (try simp only [nc, Int.toNat_natCast, ne_eq, zz] at *); (try simp only [nc] at *))
      all_goals try rw [nc] at *
      all_goals try simp only [Dat.dec, Leaf.val, Act.eta, Work.eta, Locked.eta, val_sl] at *
      all_goals first
        | omega
        | (refine ⟨Dat.hok fun _ => l.getD p Dat.d0, ?_⟩; have := h30 (by omega); show (l.getD p Dat.d0).acts.length ≤ 1000; omega)
        | (unfold InR; omega)
        | (have hk2 : p < l.length := by omega
           have hw : badW (l.getD p Dat.d0) = true := by rw [badW]; simp only [Bool.not_eq_true']; assumption
           refine fin _ _ _ ?_
           rw [e1, if_pos (anyW_at hk2 hw)]
           done)
        | (have hk2 : p < l.length := by omega
           have hw : badW (l.getD p Dat.d0) = false := by rw [badW]; simp only [Bool.not_eq_false']; assumption
           refine ⟨⟨p + 1, by omega, anyW_take hk2 ha2 hw⟩, ?_, ?_, rfl, by (try dsimp only); omega⟩
           · cbv
             repeat' first | (refine Stp.mk ?_; cbv) | (refine Gen.mk fun r hr => ?_; (try simp only [Dat.ok, Dat.dec, Leaf.ok, Leaf.val, Act.eta, Work.eta, Locked.eta, val_sl, val_nil] at hr); cbv) | exact trivial | rfl | refine Both.mk ?_ ?_ | (refine Imp.mk fun h => ?_; (try dsimp only at h); (try simp only [nc, Int.toNat_natCast, ne_eq, zz] at h); (try simp only [nc] at h)) | refine Ob.mk ?_ ?_ | refine Chk.mk (by kernel_rfl) ?_ | refine Eq'.mk ?_ | (refine AllN.mk fun i hi => ?_; cbv) | (refine AllC.mk fun c hc hcm => ?_; (try dsimp only at hc); cbv) | (refine AllS.mk fun r hr => ?_; (try simp only [Dat.ok, Dat.dec, Leaf.ok, Leaf.val, Act.eta, Work.eta, Locked.eta, val_sl] at hr); cbv)
           · cbv
             repeat' first | (refine Stp.mk ?_; cbv) | (refine Gen.mk fun r hr => ?_; (try simp only [Dat.ok, Dat.dec, Leaf.ok, Leaf.val, Act.eta, Work.eta, Locked.eta, val_sl, val_nil] at hr); cbv) | exact trivial | rfl | refine Both.mk ?_ ?_ | (refine Imp.mk fun h => ?_; (try dsimp only at h); (try simp only [nc, Int.toNat_natCast, ne_eq, zz] at h); (try simp only [nc] at h)) | refine Ob.mk ?_ ?_ | refine Chk.mk (by kernel_rfl) ?_ | refine Eq'.mk ?_ | (refine AllN.mk fun i hi => ?_; cbv) | (refine AllC.mk fun c hc hcm => ?_; (try dsimp only at hc); cbv) | (refine AllS.mk fun r hr => ?_; (try simp only [Dat.ok, Dat.dec, Leaf.ok, Leaf.val, Act.eta, Work.eta, Locked.eta, val_sl] at hr); cbv))
        | (have hall2 : l.any badW = false := by rwa [List.take_of_length_le (by omega)] at ha2
           refine fin _ _ _ ?_
           rw [e1, if_neg (by rw [hall2]; simp)])
        | fail
theorem lckC_ok : PcOk Try.prog 12 (detPC lckC_D) := det_okA fun A p r h hp0 => by
  unfold lckC_D at h
  split at h
  · rename_i l
    cases h
    obtain ⟨g0, hp⟩ := hp0
    exact ⟨rfl, FnOk.pre (A' := [Leaf.av fun _ => (Leaf.val l : (List Work))]) (lckC_vc (Leaf.val l) hp) (.mk (Leaf.hle _ g0) (trivial))⟩
  · cases h

end Go.Proofs.Ythbdlihmafcioaa
