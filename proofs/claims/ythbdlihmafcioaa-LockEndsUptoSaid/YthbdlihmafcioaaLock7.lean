/- lock.Bound: walked. -/
import Derived.Test.YthbdlihmafcioaaLock6
set_option linter.all false
namespace Go.Proofs.Ythbdlihmafcioaa
open Go Go.Abs

def rowB (h r : Int) (a : Act) : Int := if a.kind = 1 ∧ 0 < h then r + a.n else r
def highB (cl : List Int) (i h : Int) (a : Act) : Int := if a.kind = 1 ∧ 0 < h then h else if a.kind = 2 ∧ cl.getD a.n.toNat Dat.d0 ≤ i then h + 1 else if a.kind = 3 ∧ cl.getD a.n.toNat Dat.d0 ≤ i then h - 1 else h
def bndA (cl : List Int) (i : Int) : Int → Int → Int → List Act → Int
  | _, _, w, [] => w
  | h, r, w, a :: l => bndA cl i (highB cl i h a) (if highB cl i h a = 0 then 0 else rowB h r a) (max w (rowB h r a)) l
def bndW (cl : List Int) (i : Int) : Int → List Work → Int
  | w, [] => w
  | w, x :: l => bndW cl i (bndA cl i 0 0 w x.acts) l
def boundV (l : List Work) (i : Int) : Int × Int := if ¬ lckV l = 0 then (0, lckV l) else if i < 0 ∨ l.length ≤ i then (0, 7) else (bndW (ceilV l) i 0 (l.drop ((i + 1).toNat)), 0)
theorem act_n8 {A : List Act} (h : rgtR [] false A = true) {k : Nat} (hk : k < A.length) (h1 : ¬ (A.getD k Dat.d0).kind = 1) : 0 ≤ (A.getD k Dat.d0).n ∧ (A.getD k Dat.d0).n < 8 := by
  have hs := at_step h hk
  rcases rgt_kind hs with q | q | q
  · exact absurd q h1
  · exact ⟨(rgt_take q hs).1, (rgt_take q hs).2.1⟩
  · obtain ⟨r1, r2, _⟩ := rgt_drop q hs
    rw [← r2]
    exact ((hAt_ok h k (by omega)).2.2 _ (mem_last r1)).1
theorem act_n1 {A : List Act} (h : rgtR [] false A = true) {k : Nat} (hk : k < A.length) (h1 : (A.getD k Dat.d0).kind = 1) : 1 ≤ (A.getD k Dat.d0).n ∧ (A.getD k Dat.d0).n ≤ 100 := by
  have := rgt_run h1 (at_step h hk)
  exact ⟨this.1, this.2.1⟩
structure BoX (l : List Work) (i : Int) where
  k : Nat
  w : Int
  hk : (i + 1).toNat + k ≤ l.length
  hw : 0 ≤ w ∧ w ≤ 3000
  he : bndW (ceilV l) i 0 (l.drop ((i + 1).toNat)) = bndW (ceilV l) i w (l.drop ((i + 1).toNat + k))
structure BaX (l : List Work) (i : Int) (p : Nat) (w0 : Int) where
  j : Nat
  h : Int
  r : Int
  w : Int
  hj : j ≤ (l.getD p Dat.d0).acts.length
  hh : -(j : Int) ≤ h ∧ h ≤ j
  hr : 0 ≤ r ∧ r ≤ 100 * j
  hw : 0 ≤ w ∧ w ≤ 3000
  he : bndA (ceilV l) i 0 0 w0 (l.getD p Dat.d0).acts = bndA (ceilV l) i h r w ((l.getD p Dat.d0).acts.drop j)
theorem max_if {a b : Int} : (if a < b then b else a) = max a b := by split <;> omega
attribute [local irreducible] ceilV
def bndC_R (r : Th (Int × Int)) : AV := .tup [.i .i64 fun _ => (r ()).1, .i .i64 fun _ => (r ()).2]
def bndC_P (l : (List Work)) (i : Int) : Prop := l.length ≤ 9223372036854775807
def bndC_D : Det := fun A => match A with
  | [l, .i .i64 i] => some (fun _ => Leaf.ok (List Work) l ∧ bndC_P (Leaf.val l) (i ()), bndC_R fun _ => boundV (Leaf.val l) (i ()))
  | _ => none
noncomputable def cBd : FuncId → Con := fun f => match f with
  | 12 => pureCon (detPC lckC_D)
  | 13 => pureCon ceilC_C
  | _ => fun _ _ _ => Bad 1001
theorem cBd_ok : ConOk Try.prog cBd := fun f A H K h => by
  unfold cBd at h
  split at h
  · exact ⟨⟨Try.f12, Try.func12, by kernel_rfl, by kernel_rfl⟩, pureCon_ok lckC_ok h⟩
  · exact ⟨⟨Try.f13, Try.func13, by kernel_rfl, by kernel_rfl⟩, pureCon_ok ceilC_ok h⟩
  · cases h
set_option maxRecDepth 100000 in
set_option maxHeartbeats 4000000 in
theorem bndC_vc (l : (List Work)) (i : Int) (hp : bndC_P l i) : FnOk Try.prog 11 [Leaf.av fun _ => l, .i .i64 fun _ => i] [] (outA (bndC_R fun _ => boundV l i) []) := by
  refine fn_ok envOk zl cBd_ok noDraws_ok (keep := [0, 1, 4, 5, 6, 7, 8, 10, 11, 12, 14, 18, 27, 33, 34, 35, 36, 40, 41, 42, 43, 46, 58, 73, 92]) Try.func11 rfl ?_
  have hp' : l.length ≤ 9223372036854775807 := hp
  have fin : ∀ (a e : Int) H kl, boundV l i = (a, e) → outA (bndC_R fun _ => boundV l i) [] (.tup [.i .i64 fun _ => a, .i .i64 fun _ => e]) H kl := fun a e H kl h => by
    rw [h]
    cbv
    repeat' first | (refine Stp.mk ?_; cbv) | (refine Gen.mk fun r hr => ?_; (try simp only [Dat.ok, Dat.dec, Leaf.ok, Leaf.val, Act.eta, Work.eta, Locked.eta, val_sl, val_nil] at hr); cbv) | exact trivial | rfl | refine Both.mk ?_ ?_ | (refine Imp.mk fun h => ?_; (try dsimp only at h); (try simp only [nc, Int.toNat_natCast, ne_eq, zz] at h); (try simp only [nc] at h)) | refine Ob.mk ?_ ?_ | refine Chk.mk (by kernel_rfl) ?_ | refine Eq'.mk ?_ | (refine AllN.mk fun i hi => ?_; cbv) | (refine AllC.mk fun c hc hcm => ?_; (try dsimp only at hc); cbv) | (refine AllS.mk fun r hr => ?_; (try simp only [Dat.ok, Dat.dec, Leaf.ok, Leaf.val, Act.eta, Work.eta, Locked.eta, val_sl] at hr); cbv)
  generalize outA (bndC_R fun _ => boundV l i) [] = K at fin ⊢
  cbv
  repeat' first | (show Stp _; exfalso; first | omega | (exact h ‹_›) | (exact absurd ‹_› h) | (exact Bool.false_ne_true (h.symm.trans (show _ = true by assumption)))) | (refine Stp.mk ?_; cbv) | (refine Gen.mk fun r hr => ?_; (try simp only [Dat.ok, Dat.dec, Leaf.ok, Leaf.val, Act.eta, Work.eta, Locked.eta, val_sl, val_nil] at hr); cbv) | exact trivial | rfl | refine Both.mk ?_ ?_ | (refine Imp.mk fun h => ?_; (try dsimp only at h); (try simp only [nc, Int.toNat_natCast, ne_eq, zz] at h); (try simp only [nc] at h)) | refine Ob.mk ?_ ?_ | refine Chk.mk (by kernel_rfl) ?_ | refine Eq'.mk ?_ | (refine AllN.mk fun i hi => ?_; cbv) | (refine AllC.mk fun c hc hcm => ?_; (try dsimp only at hc); cbv) | (refine AllS.mk fun r hr => ?_; (try simp only [Dat.ok, Dat.dec, Leaf.ok, Leaf.val, Act.eta, Work.eta, Locked.eta, val_sl] at hr); cbv)
  all_goals ((try dsimp only at *); (try simp only [nc, Int.toNat_natCast, ne_eq, zz] at *); (try simp only [nc] at *))
  all_goals try simp only [Dat.dec, Leaf.val, Act.eta, Work.eta, Locked.eta, val_sl] at *
  all_goals first
    | exact ⟨⟨rfl, fun i _ => Dat.hok _⟩, by assumption⟩
    | (refine fin _ _ _ _ ?_
       rw [boundV, if_pos (by assumption)]
       done)
    | (refine fin _ _ _ _ ?_
       rw [boundV, if_neg (fun q => q (by assumption)), if_pos (by omega)]
       done)
    | omega
    | (unfold InR; omega)
    | skip
  have hk0 : lckV l = 0 := by assumption
  have r8 : r.length = 8 := by rw [hr, ceilV_len]
  subst hr
  have i0 : 0 ≤ i := by assumption
  have i1 : i < l.length := by assumption
  have h8 := (lck_iff.1 hk0).1
  have eB : ∀ a, bndW (ceilV l) i 0 (l.drop ((i + 1).toNat)) = a → boundV l i = (a, 0) := fun a h => by rw [boundV, if_neg (by omega), if_neg (by omega), h]
  refine LoopVC.frame [8, 10, 11, 12, 14, 35, 36, 40, 41, 42, 43, 46, 58, 73, 92] (BoX l i) (fun x => [(35, .i .i64 fun _ => x.k), (8, .i .i64 fun _ => x.w)]) (fun _ => []) [] (fun x => l.length - x.k) ⟨0, 0, by omega, ⟨Int.le_refl _, by omega⟩, rfl⟩ rfl (fun _ => rfl) ?_ ?_ fun ⟨k, w, hk, hw, he⟩ => ?_
  iterate 2
    · cbv
      repeat' first | (refine Stp.mk ?_; cbv) | (refine Gen.mk fun r hr => ?_; (try simp only [Dat.ok, Dat.dec, Leaf.ok, Leaf.val, Act.eta, Work.eta, Locked.eta, val_sl, val_nil] at hr); cbv) | exact trivial | rfl | refine Both.mk ?_ ?_ | (refine Imp.mk fun h => ?_; (try dsimp only at h); (try simp only [nc, Int.toNat_natCast, ne_eq, zz] at h); (try simp only [nc] at h)) | refine Ob.mk ?_ ?_ | refine Chk.mk (by kernel_rfl) ?_ | refine Eq'.mk ?_ | (refine AllN.mk fun i hi => ?_; cbv) | (refine AllC.mk fun c hc hcm => ?_; (try dsimp only at hc); cbv) | (refine AllS.mk fun r hr => ?_; (try simp only [Dat.ok, Dat.dec, Leaf.ok, Leaf.val, Act.eta, Work.eta, Locked.eta, val_sl] at hr); cbv)
  · have hlen := fun h => lck_get hk0 (q := (i + 1).toNat + k) h
    cbv
    repeat' first | (show Stp _; exfalso; first | omega | (exact h ‹_›) | (exact absurd ‹_› h) | (exact Bool.false_ne_true (h.symm.trans (show _ = true by assumption)))) | (refine Stp.mk ?_; cbv) | (refine Gen.mk fun r hr => ?_; (try simp only [Dat.ok, Dat.dec, Leaf.ok, Leaf.val, Act.eta, Work.eta, Locked.eta, val_sl, val_nil] at hr); cbv) | exact trivial | rfl | refine Both.mk ?_ ?_ | (refine Imp.mk fun h => ?_; (try dsimp only at h); (try simp only [nc, Int.toNat_natCast, ne_eq, zz] at h); (try simp only [nc] at h)) | refine Ob.mk ?_ ?_ | refine Chk.mk (by kernel_rfl) ?_ | refine Eq'.mk ?_ | (refine AllN.mk fun i hi => ?_; cbv) | (refine AllC.mk fun c hc hcm => ?_; (try dsimp only at hc); cbv) | (refine AllS.mk fun r hr => ?_; (try simp only [Dat.ok, Dat.dec, Leaf.ok, Leaf.val, Act.eta, Work.eta, Locked.eta, val_sl] at hr); cbv)
    all_goals ((try dsimp only at *); (try simp only [nc, Int.toNat_natCast, ne_eq, zz] at *); (try simp only [nc] at *))
    all_goals try rw [nc] at *
    all_goals try first
      | omega
      | (unfold InR; omega)
      | (refine fin _ _ _ _ (eB _ ?_)
         rw [he, List.drop_eq_nil_of_le (by omega)]
         rfl)
    obtain ⟨p, hp9⟩ : ∃ p, p = k + (i + 1).toNat := ⟨_, rfl⟩
    have hq : p < l.length := by omega
    have hlen := lck_get hk0 hq
    have he := he
    rw [show (i + 1).toNat + k = p by omega] at he
    have hp7 : (i + 1).toNat + (k + 1) = p + 1 := by omega
    have e0 : ∀ w', bndA (ceilV l) i 0 0 w (l.getD p Dat.d0).acts = w' → bndW (ceilV l) i 0 (l.drop (i + 1).toNat) = bndW (ceilV l) i w' (l.drop (p + 1)) := fun w' h => by rw [he, drop_cons Dat.d0 hq, bndW, h]
    refine LoopVC.frame [8, 11, 12, 14, 42, 43, 46, 58, 73, 92] (BaX l i p w) (fun x => [(42, .i .i64 fun _ => x.j), (11, .i .i64 fun _ => x.h), (12, .i .i64 fun _ => x.r), (8, .i .i64 fun _ => x.w)]) (fun _ => []) [] (fun x => (l.getD p Dat.d0).acts.length - x.j)
      ⟨0, 0, 0, w, Nat.zero_le _, by omega, by omega, hw, by rw [List.drop_zero]⟩ rfl (fun _ => rfl) ?_ ?_ fun ⟨j, h9, r9, w9, hj, hh, hr9, hw9, he9⟩ => ?_
    iterate 2
      · cbv
        repeat' first | (refine Stp.mk ?_; cbv) | (refine Gen.mk fun r hr => ?_; (try simp only [Dat.ok, Dat.dec, Leaf.ok, Leaf.val, Act.eta, Work.eta, Locked.eta, val_sl, val_nil] at hr); cbv) | exact trivial | rfl | refine Both.mk ?_ ?_ | (refine Imp.mk fun h => ?_; (try dsimp only at h); (try simp only [nc, Int.toNat_natCast, ne_eq, zz] at h); (try simp only [nc] at h)) | refine Ob.mk ?_ ?_ | refine Chk.mk (by kernel_rfl) ?_ | refine Eq'.mk ?_ | (refine AllN.mk fun i hi => ?_; cbv) | (refine AllC.mk fun c hc hcm => ?_; (try dsimp only at hc); cbv) | (refine AllS.mk fun r hr => ?_; (try simp only [Dat.ok, Dat.dec, Leaf.ok, Leaf.val, Act.eta, Work.eta, Locked.eta, val_sl] at hr); cbv)
    have n8 := fun h => act_n8 hlen.2.1 (k := j) h
    have n1 := fun h => act_n1 hlen.2.1 (k := j) h
    have nx : ∀ h' r', j < (l.getD p Dat.d0).acts.length → highB (ceilV l) i h9 ((l.getD p Dat.d0).acts.getD j Dat.d0) = h' → rowB h9 r9 ((l.getD p Dat.d0).acts.getD j Dat.d0) = r' → ∀ r2 w2, (if h' = 0 then 0 else r') = r2 → max w9 r' = w2 →
        bndA (ceilV l) i 0 0 w (l.getD p Dat.d0).acts = bndA (ceilV l) i h' r2 w2 ((l.getD p Dat.d0).acts.drop (j + 1)) := fun h' r' h a b r2 w2 c d => by rw [he9, drop_at h, bndA, a, b, c, d]
    cbv
    repeat' first | (show Stp _; exfalso; first | omega | (exact h ‹_›) | (exact absurd ‹_› h) | (exact Bool.false_ne_true (h.symm.trans (show _ = true by assumption)))) | (refine Stp.mk ?_; cbv) | (refine Gen.mk fun r hr => ?_; (try simp only [Dat.ok, Dat.dec, Leaf.ok, Leaf.val, Act.eta, Work.eta, Locked.eta, val_sl, val_nil] at hr); cbv) | exact trivial | rfl | refine Both.mk ?_ ?_ | (refine Imp.mk fun h => ?_; (try dsimp only at h); (try simp only [nc, Int.toNat_natCast, ne_eq, zz] at h); (try simp only [nc] at h)) | refine Ob.mk ?_ ?_ | refine Chk.mk (by kernel_rfl) ?_ | refine Eq'.mk ?_ | (refine AllN.mk fun i hi => ?_; cbv) | (refine AllC.mk fun c hc hcm => ?_; (try dsimp only at hc); cbv) | (refine AllS.mk fun r hr => ?_; (try simp only [Dat.ok, Dat.dec, Leaf.ok, Leaf.val, Act.eta, Work.eta, Locked.eta, val_sl] at hr); cbv)
    all_goals ((try dsimp only at *); (try simp only [nc, Int.toNat_natCast, ne_eq, zz] at *); (try simp only [nc] at *))
    all_goals try rw [nc] at *
    all_goals simp only [show k + (i + 1).toNat = p from hp9.symm] at *
    all_goals first
      | omega
      | (unfold InR; omega)
      | exact ⟨by omega, by omega⟩
      | (have := n1 (by omega) (by assumption); unfold InR; omega)
      | (have := n8 (by omega) (by omega); omega)
      | (have := n8 (by omega) (by omega); exact ⟨by omega, by omega⟩)
      | (have c0 : j < (l.getD p Dat.d0).acts.length := by omega
         have := n1 (by omega) (by assumption)
         have a1 : highB (ceilV l) i h9 ((l.getD p Dat.d0).acts.getD j Dat.d0) = h9 := by unfold highB; (repeat' split) <;> omega
         have a2 : rowB h9 r9 ((l.getD p Dat.d0).acts.getD j Dat.d0) = (r9 + ((l.getD p Dat.d0).acts.getD j Dat.d0).n) := by unfold rowB; split <;> omega
         have a3 : (if h9 = 0 then (0 : Int) else (r9 + ((l.getD p Dat.d0).acts.getD j Dat.d0).n)) = 0 := by split <;> omega
         have a4 := nx _ _ c0 a1 a2 _ _ a3 rfl
         refine ⟨⟨j + 1, h9, 0, max w9 (r9 + ((l.getD p Dat.d0).acts.getD j Dat.d0).n), by omega, by omega, by omega, by omega, a4⟩, ?_, ?_, rfl, by (try dsimp only); omega⟩
         · cbv
           repeat' first | (refine Stp.mk ?_; cbv) | (refine Gen.mk fun r hr => ?_; (try simp only [Dat.ok, Dat.dec, Leaf.ok, Leaf.val, Act.eta, Work.eta, Locked.eta, val_sl, val_nil] at hr); cbv) | exact trivial | rfl | refine Both.mk ?_ ?_ | (refine Imp.mk fun h => ?_; (try dsimp only at h); (try simp only [nc, Int.toNat_natCast, ne_eq, zz] at h); (try simp only [nc] at h)) | refine Ob.mk ?_ ?_ | refine Chk.mk (by kernel_rfl) ?_ | refine Eq'.mk ?_ | (refine AllN.mk fun i hi => ?_; cbv) | (refine AllC.mk fun c hc hcm => ?_; (try dsimp only at hc); cbv) | (refine AllS.mk fun r hr => ?_; (try simp only [Dat.ok, Dat.dec, Leaf.ok, Leaf.val, Act.eta, Work.eta, Locked.eta, val_sl] at hr); cbv)
           all_goals first | rfl | omega | exact max_if | fail
         · cbv
           repeat' first | (refine Stp.mk ?_; cbv) | (refine Gen.mk fun r hr => ?_; (try simp only [Dat.ok, Dat.dec, Leaf.ok, Leaf.val, Act.eta, Work.eta, Locked.eta, val_sl, val_nil] at hr); cbv) | exact trivial | rfl | refine Both.mk ?_ ?_ | (refine Imp.mk fun h => ?_; (try dsimp only at h); (try simp only [nc, Int.toNat_natCast, ne_eq, zz] at h); (try simp only [nc] at h)) | refine Ob.mk ?_ ?_ | refine Chk.mk (by kernel_rfl) ?_ | refine Eq'.mk ?_ | (refine AllN.mk fun i hi => ?_; cbv) | (refine AllC.mk fun c hc hcm => ?_; (try dsimp only at hc); cbv) | (refine AllS.mk fun r hr => ?_; (try simp only [Dat.ok, Dat.dec, Leaf.ok, Leaf.val, Act.eta, Work.eta, Locked.eta, val_sl] at hr); cbv))
      | (have c0 : j < (l.getD p Dat.d0).acts.length := by omega
         have := n1 (by omega) (by assumption)
         have a1 : highB (ceilV l) i h9 ((l.getD p Dat.d0).acts.getD j Dat.d0) = h9 := by unfold highB; (repeat' split) <;> omega
         have a2 : rowB h9 r9 ((l.getD p Dat.d0).acts.getD j Dat.d0) = (r9 + ((l.getD p Dat.d0).acts.getD j Dat.d0).n) := by unfold rowB; split <;> omega
         have a3 : (if h9 = 0 then (0 : Int) else (r9 + ((l.getD p Dat.d0).acts.getD j Dat.d0).n)) = (r9 + ((l.getD p Dat.d0).acts.getD j Dat.d0).n) := by split <;> omega
         have a4 := nx _ _ c0 a1 a2 _ _ a3 rfl
         refine ⟨⟨j + 1, h9, (r9 + ((l.getD p Dat.d0).acts.getD j Dat.d0).n), max w9 (r9 + ((l.getD p Dat.d0).acts.getD j Dat.d0).n), by omega, by omega, by omega, by omega, a4⟩, ?_, ?_, rfl, by (try dsimp only); omega⟩
         · cbv
           repeat' first | (refine Stp.mk ?_; cbv) | (refine Gen.mk fun r hr => ?_; (try simp only [Dat.ok, Dat.dec, Leaf.ok, Leaf.val, Act.eta, Work.eta, Locked.eta, val_sl, val_nil] at hr); cbv) | exact trivial | rfl | refine Both.mk ?_ ?_ | (refine Imp.mk fun h => ?_; (try dsimp only at h); (try simp only [nc, Int.toNat_natCast, ne_eq, zz] at h); (try simp only [nc] at h)) | refine Ob.mk ?_ ?_ | refine Chk.mk (by kernel_rfl) ?_ | refine Eq'.mk ?_ | (refine AllN.mk fun i hi => ?_; cbv) | (refine AllC.mk fun c hc hcm => ?_; (try dsimp only at hc); cbv) | (refine AllS.mk fun r hr => ?_; (try simp only [Dat.ok, Dat.dec, Leaf.ok, Leaf.val, Act.eta, Work.eta, Locked.eta, val_sl] at hr); cbv)
           all_goals first | rfl | omega | exact max_if | fail
         · cbv
           repeat' first | (refine Stp.mk ?_; cbv) | (refine Gen.mk fun r hr => ?_; (try simp only [Dat.ok, Dat.dec, Leaf.ok, Leaf.val, Act.eta, Work.eta, Locked.eta, val_sl, val_nil] at hr); cbv) | exact trivial | rfl | refine Both.mk ?_ ?_ | (refine Imp.mk fun h => ?_; (try dsimp only at h); (try simp only [nc, Int.toNat_natCast, ne_eq, zz] at h); (try simp only [nc] at h)) | refine Ob.mk ?_ ?_ | refine Chk.mk (by kernel_rfl) ?_ | refine Eq'.mk ?_ | (refine AllN.mk fun i hi => ?_; cbv) | (refine AllC.mk fun c hc hcm => ?_; (try dsimp only at hc); cbv) | (refine AllS.mk fun r hr => ?_; (try simp only [Dat.ok, Dat.dec, Leaf.ok, Leaf.val, Act.eta, Work.eta, Locked.eta, val_sl] at hr); cbv))
      | (have c0 : j < (l.getD p Dat.d0).acts.length := by omega
         skip
         have a1 : highB (ceilV l) i h9 ((l.getD p Dat.d0).acts.getD j Dat.d0) = (h9 + 1) := by unfold highB; (repeat' split) <;> omega
         have a2 : rowB h9 r9 ((l.getD p Dat.d0).acts.getD j Dat.d0) = r9 := by unfold rowB; split <;> omega
         have a3 : (if (h9 + 1) = 0 then (0 : Int) else r9) = 0 := by split <;> omega
         have a4 := nx _ _ c0 a1 a2 _ _ a3 rfl
         refine ⟨⟨j + 1, (h9 + 1), 0, max w9 r9, by omega, by omega, by omega, by omega, a4⟩, ?_, ?_, rfl, by (try dsimp only); omega⟩
         · cbv
           repeat' first | (refine Stp.mk ?_; cbv) | (refine Gen.mk fun r hr => ?_; (try simp only [Dat.ok, Dat.dec, Leaf.ok, Leaf.val, Act.eta, Work.eta, Locked.eta, val_sl, val_nil] at hr); cbv) | exact trivial | rfl | refine Both.mk ?_ ?_ | (refine Imp.mk fun h => ?_; (try dsimp only at h); (try simp only [nc, Int.toNat_natCast, ne_eq, zz] at h); (try simp only [nc] at h)) | refine Ob.mk ?_ ?_ | refine Chk.mk (by kernel_rfl) ?_ | refine Eq'.mk ?_ | (refine AllN.mk fun i hi => ?_; cbv) | (refine AllC.mk fun c hc hcm => ?_; (try dsimp only at hc); cbv) | (refine AllS.mk fun r hr => ?_; (try simp only [Dat.ok, Dat.dec, Leaf.ok, Leaf.val, Act.eta, Work.eta, Locked.eta, val_sl] at hr); cbv)
           all_goals first | rfl | omega | exact max_if | fail
         · cbv
           repeat' first | (refine Stp.mk ?_; cbv) | (refine Gen.mk fun r hr => ?_; (try simp only [Dat.ok, Dat.dec, Leaf.ok, Leaf.val, Act.eta, Work.eta, Locked.eta, val_sl, val_nil] at hr); cbv) | exact trivial | rfl | refine Both.mk ?_ ?_ | (refine Imp.mk fun h => ?_; (try dsimp only at h); (try simp only [nc, Int.toNat_natCast, ne_eq, zz] at h); (try simp only [nc] at h)) | refine Ob.mk ?_ ?_ | refine Chk.mk (by kernel_rfl) ?_ | refine Eq'.mk ?_ | (refine AllN.mk fun i hi => ?_; cbv) | (refine AllC.mk fun c hc hcm => ?_; (try dsimp only at hc); cbv) | (refine AllS.mk fun r hr => ?_; (try simp only [Dat.ok, Dat.dec, Leaf.ok, Leaf.val, Act.eta, Work.eta, Locked.eta, val_sl] at hr); cbv))
      | (have c0 : j < (l.getD p Dat.d0).acts.length := by omega
         skip
         have a1 : highB (ceilV l) i h9 ((l.getD p Dat.d0).acts.getD j Dat.d0) = (h9 + 1) := by unfold highB; (repeat' split) <;> omega
         have a2 : rowB h9 r9 ((l.getD p Dat.d0).acts.getD j Dat.d0) = r9 := by unfold rowB; split <;> omega
         have a3 : (if (h9 + 1) = 0 then (0 : Int) else r9) = r9 := by split <;> omega
         have a4 := nx _ _ c0 a1 a2 _ _ a3 rfl
         refine ⟨⟨j + 1, (h9 + 1), r9, max w9 r9, by omega, by omega, by omega, by omega, a4⟩, ?_, ?_, rfl, by (try dsimp only); omega⟩
         · cbv
           repeat' first | (refine Stp.mk ?_; cbv) | (refine Gen.mk fun r hr => ?_; (try simp only [Dat.ok, Dat.dec, Leaf.ok, Leaf.val, Act.eta, Work.eta, Locked.eta, val_sl, val_nil] at hr); cbv) | exact trivial | rfl | refine Both.mk ?_ ?_ | (refine Imp.mk fun h => ?_; (try dsimp only at h); (try simp only [nc, Int.toNat_natCast, ne_eq, zz] at h); (try simp only [nc] at h)) | refine Ob.mk ?_ ?_ | refine Chk.mk (by kernel_rfl) ?_ | refine Eq'.mk ?_ | (refine AllN.mk fun i hi => ?_; cbv) | (refine AllC.mk fun c hc hcm => ?_; (try dsimp only at hc); cbv) | (refine AllS.mk fun r hr => ?_; (try simp only [Dat.ok, Dat.dec, Leaf.ok, Leaf.val, Act.eta, Work.eta, Locked.eta, val_sl] at hr); cbv)
           all_goals first | rfl | omega | exact max_if | fail
         · cbv
           repeat' first | (refine Stp.mk ?_; cbv) | (refine Gen.mk fun r hr => ?_; (try simp only [Dat.ok, Dat.dec, Leaf.ok, Leaf.val, Act.eta, Work.eta, Locked.eta, val_sl, val_nil] at hr); cbv) | exact trivial | rfl | refine Both.mk ?_ ?_ | (refine Imp.mk fun h => ?_; (try dsimp only at h); (try simp only [nc, Int.toNat_natCast, ne_eq, zz] at h); (try simp only [nc] at h)) | refine Ob.mk ?_ ?_ | refine Chk.mk (by kernel_rfl) ?_ | refine Eq'.mk ?_ | (refine AllN.mk fun i hi => ?_; cbv) | (refine AllC.mk fun c hc hcm => ?_; (try dsimp only at hc); cbv) | (refine AllS.mk fun r hr => ?_; (try simp only [Dat.ok, Dat.dec, Leaf.ok, Leaf.val, Act.eta, Work.eta, Locked.eta, val_sl] at hr); cbv))
      | (have c0 : j < (l.getD p Dat.d0).acts.length := by omega
         skip
         have a1 : highB (ceilV l) i h9 ((l.getD p Dat.d0).acts.getD j Dat.d0) = (h9 - 1) := by unfold highB; (repeat' split) <;> omega
         have a2 : rowB h9 r9 ((l.getD p Dat.d0).acts.getD j Dat.d0) = r9 := by unfold rowB; split <;> omega
         have a3 : (if (h9 - 1) = 0 then (0 : Int) else r9) = 0 := by split <;> omega
         have a4 := nx _ _ c0 a1 a2 _ _ a3 rfl
         refine ⟨⟨j + 1, (h9 - 1), 0, max w9 r9, by omega, by omega, by omega, by omega, a4⟩, ?_, ?_, rfl, by (try dsimp only); omega⟩
         · cbv
           repeat' first | (refine Stp.mk ?_; cbv) | (refine Gen.mk fun r hr => ?_; (try simp only [Dat.ok, Dat.dec, Leaf.ok, Leaf.val, Act.eta, Work.eta, Locked.eta, val_sl, val_nil] at hr); cbv) | exact trivial | rfl | refine Both.mk ?_ ?_ | (refine Imp.mk fun h => ?_; (try dsimp only at h); (try simp only [nc, Int.toNat_natCast, ne_eq, zz] at h); (try simp only [nc] at h)) | refine Ob.mk ?_ ?_ | refine Chk.mk (by kernel_rfl) ?_ | refine Eq'.mk ?_ | (refine AllN.mk fun i hi => ?_; cbv) | (refine AllC.mk fun c hc hcm => ?_; (try dsimp only at hc); cbv) | (refine AllS.mk fun r hr => ?_; (try simp only [Dat.ok, Dat.dec, Leaf.ok, Leaf.val, Act.eta, Work.eta, Locked.eta, val_sl] at hr); cbv)
           all_goals first | rfl | omega | exact max_if | fail
         · cbv
           repeat' first | (refine Stp.mk ?_; cbv) | (refine Gen.mk fun r hr => ?_; (try simp only [Dat.ok, Dat.dec, Leaf.ok, Leaf.val, Act.eta, Work.eta, Locked.eta, val_sl, val_nil] at hr); cbv) | exact trivial | rfl | refine Both.mk ?_ ?_ | (refine Imp.mk fun h => ?_; (try dsimp only at h); (try simp only [nc, Int.toNat_natCast, ne_eq, zz] at h); (try simp only [nc] at h)) | refine Ob.mk ?_ ?_ | refine Chk.mk (by kernel_rfl) ?_ | refine Eq'.mk ?_ | (refine AllN.mk fun i hi => ?_; cbv) | (refine AllC.mk fun c hc hcm => ?_; (try dsimp only at hc); cbv) | (refine AllS.mk fun r hr => ?_; (try simp only [Dat.ok, Dat.dec, Leaf.ok, Leaf.val, Act.eta, Work.eta, Locked.eta, val_sl] at hr); cbv))
      | (have c0 : j < (l.getD p Dat.d0).acts.length := by omega
         skip
         have a1 : highB (ceilV l) i h9 ((l.getD p Dat.d0).acts.getD j Dat.d0) = (h9 - 1) := by unfold highB; (repeat' split) <;> omega
         have a2 : rowB h9 r9 ((l.getD p Dat.d0).acts.getD j Dat.d0) = r9 := by unfold rowB; split <;> omega
         have a3 : (if (h9 - 1) = 0 then (0 : Int) else r9) = r9 := by split <;> omega
         have a4 := nx _ _ c0 a1 a2 _ _ a3 rfl
         refine ⟨⟨j + 1, (h9 - 1), r9, max w9 r9, by omega, by omega, by omega, by omega, a4⟩, ?_, ?_, rfl, by (try dsimp only); omega⟩
         · cbv
           repeat' first | (refine Stp.mk ?_; cbv) | (refine Gen.mk fun r hr => ?_; (try simp only [Dat.ok, Dat.dec, Leaf.ok, Leaf.val, Act.eta, Work.eta, Locked.eta, val_sl, val_nil] at hr); cbv) | exact trivial | rfl | refine Both.mk ?_ ?_ | (refine Imp.mk fun h => ?_; (try dsimp only at h); (try simp only [nc, Int.toNat_natCast, ne_eq, zz] at h); (try simp only [nc] at h)) | refine Ob.mk ?_ ?_ | refine Chk.mk (by kernel_rfl) ?_ | refine Eq'.mk ?_ | (refine AllN.mk fun i hi => ?_; cbv) | (refine AllC.mk fun c hc hcm => ?_; (try dsimp only at hc); cbv) | (refine AllS.mk fun r hr => ?_; (try simp only [Dat.ok, Dat.dec, Leaf.ok, Leaf.val, Act.eta, Work.eta, Locked.eta, val_sl] at hr); cbv)
           all_goals first | rfl | omega | exact max_if | fail
         · cbv
           repeat' first | (refine Stp.mk ?_; cbv) | (refine Gen.mk fun r hr => ?_; (try simp only [Dat.ok, Dat.dec, Leaf.ok, Leaf.val, Act.eta, Work.eta, Locked.eta, val_sl, val_nil] at hr); cbv) | exact trivial | rfl | refine Both.mk ?_ ?_ | (refine Imp.mk fun h => ?_; (try dsimp only at h); (try simp only [nc, Int.toNat_natCast, ne_eq, zz] at h); (try simp only [nc] at h)) | refine Ob.mk ?_ ?_ | refine Chk.mk (by kernel_rfl) ?_ | refine Eq'.mk ?_ | (refine AllN.mk fun i hi => ?_; cbv) | (refine AllC.mk fun c hc hcm => ?_; (try dsimp only at hc); cbv) | (refine AllS.mk fun r hr => ?_; (try simp only [Dat.ok, Dat.dec, Leaf.ok, Leaf.val, Act.eta, Work.eta, Locked.eta, val_sl] at hr); cbv))
      | (have c0 : j < (l.getD p Dat.d0).acts.length := by omega
         skip
         have a1 : highB (ceilV l) i h9 ((l.getD p Dat.d0).acts.getD j Dat.d0) = h9 := by unfold highB; (repeat' split) <;> omega
         have a2 : rowB h9 r9 ((l.getD p Dat.d0).acts.getD j Dat.d0) = r9 := by unfold rowB; split <;> omega
         have a3 : (if h9 = 0 then (0 : Int) else r9) = 0 := by split <;> omega
         have a4 := nx _ _ c0 a1 a2 _ _ a3 rfl
         refine ⟨⟨j + 1, h9, 0, max w9 r9, by omega, by omega, by omega, by omega, a4⟩, ?_, ?_, rfl, by (try dsimp only); omega⟩
         · cbv
           repeat' first | (refine Stp.mk ?_; cbv) | (refine Gen.mk fun r hr => ?_; (try simp only [Dat.ok, Dat.dec, Leaf.ok, Leaf.val, Act.eta, Work.eta, Locked.eta, val_sl, val_nil] at hr); cbv) | exact trivial | rfl | refine Both.mk ?_ ?_ | (refine Imp.mk fun h => ?_; (try dsimp only at h); (try simp only [nc, Int.toNat_natCast, ne_eq, zz] at h); (try simp only [nc] at h)) | refine Ob.mk ?_ ?_ | refine Chk.mk (by kernel_rfl) ?_ | refine Eq'.mk ?_ | (refine AllN.mk fun i hi => ?_; cbv) | (refine AllC.mk fun c hc hcm => ?_; (try dsimp only at hc); cbv) | (refine AllS.mk fun r hr => ?_; (try simp only [Dat.ok, Dat.dec, Leaf.ok, Leaf.val, Act.eta, Work.eta, Locked.eta, val_sl] at hr); cbv)
           all_goals first | rfl | omega | exact max_if | fail
         · cbv
           repeat' first | (refine Stp.mk ?_; cbv) | (refine Gen.mk fun r hr => ?_; (try simp only [Dat.ok, Dat.dec, Leaf.ok, Leaf.val, Act.eta, Work.eta, Locked.eta, val_sl, val_nil] at hr); cbv) | exact trivial | rfl | refine Both.mk ?_ ?_ | (refine Imp.mk fun h => ?_; (try dsimp only at h); (try simp only [nc, Int.toNat_natCast, ne_eq, zz] at h); (try simp only [nc] at h)) | refine Ob.mk ?_ ?_ | refine Chk.mk (by kernel_rfl) ?_ | refine Eq'.mk ?_ | (refine AllN.mk fun i hi => ?_; cbv) | (refine AllC.mk fun c hc hcm => ?_; (try dsimp only at hc); cbv) | (refine AllS.mk fun r hr => ?_; (try simp only [Dat.ok, Dat.dec, Leaf.ok, Leaf.val, Act.eta, Work.eta, Locked.eta, val_sl] at hr); cbv))
      | (have c0 : j < (l.getD p Dat.d0).acts.length := by omega
         skip
         have a1 : highB (ceilV l) i h9 ((l.getD p Dat.d0).acts.getD j Dat.d0) = h9 := by unfold highB; (repeat' split) <;> omega
         have a2 : rowB h9 r9 ((l.getD p Dat.d0).acts.getD j Dat.d0) = r9 := by unfold rowB; split <;> omega
         have a3 : (if h9 = 0 then (0 : Int) else r9) = r9 := by split <;> omega
         have a4 := nx _ _ c0 a1 a2 _ _ a3 rfl
         refine ⟨⟨j + 1, h9, r9, max w9 r9, by omega, by omega, by omega, by omega, a4⟩, ?_, ?_, rfl, by (try dsimp only); omega⟩
         · cbv
           repeat' first | (refine Stp.mk ?_; cbv) | (refine Gen.mk fun r hr => ?_; (try simp only [Dat.ok, Dat.dec, Leaf.ok, Leaf.val, Act.eta, Work.eta, Locked.eta, val_sl, val_nil] at hr); cbv) | exact trivial | rfl | refine Both.mk ?_ ?_ | (refine Imp.mk fun h => ?_; (try dsimp only at h); (try simp only [nc, Int.toNat_natCast, ne_eq, zz] at h); (try simp only [nc] at h)) | refine Ob.mk ?_ ?_ | refine Chk.mk (by kernel_rfl) ?_ | refine Eq'.mk ?_ | (refine AllN.mk fun i hi => ?_; cbv) | (refine AllC.mk fun c hc hcm => ?_; (try dsimp only at hc); cbv) | (refine AllS.mk fun r hr => ?_; (try simp only [Dat.ok, Dat.dec, Leaf.ok, Leaf.val, Act.eta, Work.eta, Locked.eta, val_sl] at hr); cbv)
           all_goals first | rfl | omega | exact max_if | fail
         · cbv
           repeat' first | (refine Stp.mk ?_; cbv) | (refine Gen.mk fun r hr => ?_; (try simp only [Dat.ok, Dat.dec, Leaf.ok, Leaf.val, Act.eta, Work.eta, Locked.eta, val_sl, val_nil] at hr); cbv) | exact trivial | rfl | refine Both.mk ?_ ?_ | (refine Imp.mk fun h => ?_; (try dsimp only at h); (try simp only [nc, Int.toNat_natCast, ne_eq, zz] at h); (try simp only [nc] at h)) | refine Ob.mk ?_ ?_ | refine Chk.mk (by kernel_rfl) ?_ | refine Eq'.mk ?_ | (refine AllN.mk fun i hi => ?_; cbv) | (refine AllC.mk fun c hc hcm => ?_; (try dsimp only at hc); cbv) | (refine AllS.mk fun r hr => ?_; (try simp only [Dat.ok, Dat.dec, Leaf.ok, Leaf.val, Act.eta, Work.eta, Locked.eta, val_sl] at hr); cbv))
      | (have c0 : (l.getD p Dat.d0).acts.length ≤ j := by omega
         have e2 : bndA (ceilV l) i 0 0 w (l.getD p Dat.d0).acts = w9 := by rw [he9, List.drop_eq_nil_of_le c0, bndA]
         refine ⟨⟨k + 1, w9, by omega, hw9, by rw [hp7]; exact e0 _ e2⟩, ?_, ?_, rfl, by (try dsimp only); omega⟩
         · cbv
           repeat' first | (refine Stp.mk ?_; cbv) | (refine Gen.mk fun r hr => ?_; (try simp only [Dat.ok, Dat.dec, Leaf.ok, Leaf.val, Act.eta, Work.eta, Locked.eta, val_sl, val_nil] at hr); cbv) | exact trivial | rfl | refine Both.mk ?_ ?_ | (refine Imp.mk fun h => ?_; (try dsimp only at h); (try simp only [nc, Int.toNat_natCast, ne_eq, zz] at h); (try simp only [nc] at h)) | refine Ob.mk ?_ ?_ | refine Chk.mk (by kernel_rfl) ?_ | refine Eq'.mk ?_ | (refine AllN.mk fun i hi => ?_; cbv) | (refine AllC.mk fun c hc hcm => ?_; (try dsimp only at hc); cbv) | (refine AllS.mk fun r hr => ?_; (try simp only [Dat.ok, Dat.dec, Leaf.ok, Leaf.val, Act.eta, Work.eta, Locked.eta, val_sl] at hr); cbv)
         · cbv
           repeat' first | (refine Stp.mk ?_; cbv) | (refine Gen.mk fun r hr => ?_; (try simp only [Dat.ok, Dat.dec, Leaf.ok, Leaf.val, Act.eta, Work.eta, Locked.eta, val_sl, val_nil] at hr); cbv) | exact trivial | rfl | refine Both.mk ?_ ?_ | (refine Imp.mk fun h => ?_; (try dsimp only at h); (try simp only [nc, Int.toNat_natCast, ne_eq, zz] at h); (try simp only [nc] at h)) | refine Ob.mk ?_ ?_ | refine Chk.mk (by kernel_rfl) ?_ | refine Eq'.mk ?_ | (refine AllN.mk fun i hi => ?_; cbv) | (refine AllC.mk fun c hc hcm => ?_; (try dsimp only at hc); cbv) | (refine AllS.mk fun r hr => ?_; (try simp only [Dat.ok, Dat.dec, Leaf.ok, Leaf.val, Act.eta, Work.eta, Locked.eta, val_sl] at hr); cbv))
      | skip
    all_goals fail
theorem bndC_ok : PcOk Try.prog 11 (detPC bndC_D) := det_okA fun A p r h hp0 => by
  unfold bndC_D at h
  split at h
  · rename_i l i
    cases h
    obtain ⟨g0, hp⟩ := hp0
    exact ⟨rfl, FnOk.pre (A' := [Leaf.av fun _ => (Leaf.val l : (List Work)), .i .i64 fun _ => i ()]) (bndC_vc (Leaf.val l) (i ()) hp) (.mk (Leaf.hle _ g0) (.mk (.mk (.mk rfl) (.mk rfl)) (trivial)))⟩
  · cases h

end Go.Proofs.Ythbdlihmafcioaa
