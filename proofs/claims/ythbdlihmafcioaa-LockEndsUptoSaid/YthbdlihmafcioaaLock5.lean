/- lock.house: a step, walked. -/
import Derived.Test.YthbdlihmafcioaaLock4
import Derived.Test.YthbdlihmafcioaaLockR
import Derived.Test.YthbdlihmafcioaaAbsG4
set_option linter.all false
namespace Go.Proofs.Ythbdlihmafcioaa
open Go Go.Abs

noncomputable def nextD (l : List Work) (ws : List Wk) (cl o rn en : List Int) (clash t0 B : Int) : Det := fun A => match A with
  | [x, .i .i64 t] => some (fun _ => t () = t0 ∧ leL 0 [x] [hsC l (fun _ => ws) (fun _ => cl) (fun _ => o) (fun _ => rn) (fun _ => en) fun _ => clash], .i .i64 fun _ => B)
  | _ => none
theorem nextD_ok {l : List Work} {ws : List Wk} {cl o rn en : List Int} {clash t0 B : Int} (hB : nextR l ws cl t0 ws.length 0 (-1) = B) (h8 : ws.length ≤ 8) (hn : ∀ q, q < ws.length → ∀ n ∈ (ws.getD q wk0).h, 0 ≤ n ∧ n < 8) (hl : ∀ q, q < ws.length → (ws.getD q wk0).h.length ≤ 1000) : PcOk Try.prog 20 (detPC (nextD l ws cl o rn en clash t0 B)) := det_ok fun A p r h hp => by
  unfold nextD at h
  split at h
  · rename_i x t
    cases h
    obtain ⟨ht, hp⟩ := hp
    have e := next_vc l ws cl o rn en clash (t ()) h8 hn hl
    rw [ht, hB, ← ht] at e
    refine FnOk.pre e ?_
    cases hp with
    | mk h2 h3 =>
      refine .mk h2 (.mk ?_ trivial)
      cbv
      repeat' first | (refine Stp.mk ?_; cbv) | (refine Gen.mk fun r hr => ?_; (try simp only [Dat.ok, Dat.dec, Leaf.ok, Leaf.val, Act.eta, Work.eta, Locked.eta, val_sl, val_nil] at hr); cbv) | exact trivial | rfl | refine Both.mk ?_ ?_ | (refine Imp.mk fun h => ?_; (try dsimp only at h); (try simp only [nc, Int.toNat_natCast, ne_eq, zz] at h); (try simp only [nc] at h)) | refine Ob.mk ?_ ?_ | refine Chk.mk (by kernel_rfl) ?_ | refine Eq'.mk ?_ | (refine AllN.mk fun i hi => ?_; cbv) | (refine AllC.mk fun c hc hcm => ?_; (try dsimp only at hc); cbv) | (refine AllS.mk fun r hr => ?_; (try simp only [Dat.ok, Dat.dec, Leaf.ok, Leaf.val, Act.eta, Work.eta, Locked.eta, val_sl] at hr); cbv)
  · cases h
noncomputable def cSt (l : List Work) (ws : List Wk) (cl o rn en : List Int) (clash t0 B : Int) : FuncId → Con := fun f => match f with
  | 20 => pureConP (detPC (nextD l ws cl o rn en clash t0 B))
  | 21 => inlCon E cFr (mixD E cFr dFr) [0, 1, 2, 6, 7, 8, 26, 59, 73, 81] Try.f21
  | _ => fun _ _ _ => Bad 1001
theorem cSt_ok {l : List Work} {ws : List Wk} {cl o rn en : List Int} {clash t0 B : Int} (hB : nextR l ws cl t0 ws.length 0 (-1) = B) (h8 : ws.length ≤ 8) (hn : ∀ q, q < ws.length → ∀ n ∈ (ws.getD q wk0).h, 0 ≤ n ∧ n < 8) (hl : ∀ q, q < ws.length → (ws.getD q wk0).h.length ≤ 1000) : ConOk Try.prog (cSt l ws cl o rn en clash t0 B) := fun f A H K h => by
  unfold cSt at h
  split at h
  · exact ⟨⟨Try.f20, Try.func20, by kernel_rfl, by kernel_rfl⟩, pureConP_ok (nextD_ok hB h8 hn hl) h⟩
  · exact ⟨⟨Try.f21, Try.func21, by kernel_rfl, by kernel_rfl⟩, inl_ok envOk zl cFr_ok (mixD_ok envOk zl cFr_ok dFr_ok mixed) Try.func21 h⟩
  · cases h
set_option maxRecDepth 100000 in
set_option maxHeartbeats 4000000 in
theorem step0_vc (l : List Work) (ws : List Wk) (cl o0 rn en : List Int) (clash t : Int) (h8 : ws.length ≤ 8) (hn : ∀ q, q < ws.length → ∀ n ∈ (ws.getD q wk0).h, 0 ≤ n ∧ n < 8) (hl : ∀ q, q < ws.length → (ws.getD q wk0).h.length ≤ 1000) (hcl : cl.length = 8) (hen : en.length = ws.length)
    (hB : nextR l ws cl t ws.length 0 (-1) = -1) :
    FnOk Try.prog 14 [.ptr 0 0, .i .i64 fun _ => t] [hsO (fun _ => ws.length) (fun _ => rn.length) (fun _ => o0) fun _ => clash, wksO l fun _ => ws, vecO 3 fun _ => cl, vecO 3 fun _ => rn, vecO 3 fun _ => en] (outLe 5 (.i .i64 fun _ => -1)
      [hsO (fun _ => ws.length) (fun _ => rn.length) (fun _ => o0) fun _ => clash, wksO l fun _ => ws, vecO 3 fun _ => cl, vecO 3 fun _ => rn, vecO 3 fun _ => en] []) := by
  refine fn_ok envOk zl (cSt_ok (l := l) (cl := cl) (o := o0) (rn := rn) (en := en) (clash := clash) hB h8 hn hl) (mixD_ok envOk zl cFr_ok dFr_ok mixed) (keep := [0, 1, 4, 5, 6, 11, 15, 55, 80]) Try.func14 rfl ?_
  cbv
  repeat' first | (show Stp _; exfalso; first | omega | (exact h ‹_›) | (exact absurd ‹_› h) | (exact Bool.false_ne_true (h.symm.trans (show _ = true by assumption)))) | (refine Stp.mk ?_; cbv) | (refine Gen.mk fun r hr => ?_; (try simp only [Dat.ok, Dat.dec, Leaf.ok, Leaf.val, Act.eta, Work.eta, Locked.eta, val_sl, val_nil] at hr); cbv) | exact trivial | rfl | refine Both.mk ?_ ?_ | (refine Imp.mk fun h => ?_; (try dsimp only at h); (try simp only [nc, Int.toNat_natCast, ne_eq, zz] at h); (try simp only [nc] at h)) | refine Ob.mk ?_ ?_ | refine Chk.mk (by kernel_rfl) ?_ | refine Eq'.mk ?_ | (refine AllN.mk fun i hi => ?_; cbv) | (refine AllC.mk fun c hc hcm => ?_; (try dsimp only at hc); cbv) | (refine AllS.mk fun r hr => ?_; (try simp only [Dat.ok, Dat.dec, Leaf.ok, Leaf.val, Act.eta, Work.eta, Locked.eta, val_sl] at hr); cbv)
  all_goals ((try dsimp only at *); (try simp only [nc, Int.toNat_natCast, ne_eq, zz] at *); (try simp only [nc] at *))
  all_goals first
    | omega
    | (refine ⟨trivial, ?_⟩
       cbv
       repeat' first | (refine Stp.mk ?_; cbv) | (refine Gen.mk fun r hr => ?_; (try simp only [Dat.ok, Dat.dec, Leaf.ok, Leaf.val, Act.eta, Work.eta, Locked.eta, val_sl, val_nil] at hr); cbv) | exact trivial | rfl | refine Both.mk ?_ ?_ | (refine Imp.mk fun h => ?_; (try dsimp only at h); (try simp only [nc, Int.toNat_natCast, ne_eq, zz] at h); (try simp only [nc] at h)) | refine Ob.mk ?_ ?_ | refine Chk.mk (by kernel_rfl) ?_ | refine Eq'.mk ?_ | (refine AllN.mk fun i hi => ?_; cbv) | (refine AllC.mk fun c hc hcm => ?_; (try dsimp only at hc); cbv) | (refine AllS.mk fun r hr => ?_; (try simp only [Dat.ok, Dat.dec, Leaf.ok, Leaf.val, Act.eta, Work.eta, Locked.eta, val_sl] at hr); cbv))
structure FrY (l : List Work) (q : Nat) (p : Nat) (h0 : List Int) (tk : Bool) (o0 : List Int) where
  k : Nat
  l0 : List Int
  m : Nat
  o : List Int
  runs : Bool
  hk : k ≤ (l.getD q Dat.d0).acts.length
  hm : m ≤ l0.length
  hl : l0.length ≤ k
  ho : o.length = 8
  hx : FrI (l.getD q Dat.d0).acts tk k (l0.take m) runs
  he : freeR q tk ((l.getD q Dat.d0).acts.drop p) p h0 o0 = freeR q tk ((l.getD q Dat.d0).acts.drop k) k (l0.take m) o
theorem fr_run {l : List Work} {q k : Nat} {tk : Bool} {h o : List Int} (hk : k < (l.getD q Dat.d0).acts.length) (h1 : ((l.getD q Dat.d0).acts.getD k Dat.d0).kind = 1) : freeR q tk ((l.getD q Dat.d0).acts.drop k) k h o = (true, k, h, o) := by rw [drop_at hk, freeR, if_neg (by omega), if_pos (.inl h1)]
theorem fr_no {l : List Work} {q k : Nat} {tk : Bool} {h o : List Int} (hk : k < (l.getD q Dat.d0).acts.length) (h3 : ¬ ((l.getD q Dat.d0).acts.getD k Dat.d0).kind = 3) (ht : tk = false) : freeR q tk ((l.getD q Dat.d0).acts.drop k) k h o = (true, k, h, o) := by rw [drop_at hk, freeR, if_neg h3, if_pos (.inr ht)]
theorem fr_end {l : List Work} {q k : Nat} {tk : Bool} {h o : List Int} (hk : (l.getD q Dat.d0).acts.length ≤ k) : freeR q tk ((l.getD q Dat.d0).acts.drop k) k h o = (true, k, h, o) := by rw [List.drop_eq_nil_of_le hk, freeR]
theorem fr_bad {l : List Work} {q k : Nat} {h o : List Int} (hk : k < (l.getD q Dat.d0).acts.length) (h3 : ¬ ((l.getD q Dat.d0).acts.getD k Dat.d0).kind = 3) (h1 : ¬ ((l.getD q Dat.d0).acts.getD k Dat.d0).kind = 1) (h5 : 0 < o.getD ((l.getD q Dat.d0).acts.getD k Dat.d0).n.toNat 0) : freeR q true ((l.getD q Dat.d0).acts.drop k) k h o = (false, k, h, o) := by
  rw [drop_at hk, freeR, if_neg h3, if_neg (by rintro (h | h); exact h1 h; cases h), if_pos h5]
theorem fr_take {l : List Work} {q k : Nat} {h o : List Int} (hk : k < (l.getD q Dat.d0).acts.length) (h3 : ¬ ((l.getD q Dat.d0).acts.getD k Dat.d0).kind = 3) (h1 : ¬ ((l.getD q Dat.d0).acts.getD k Dat.d0).kind = 1) (h5 : o.getD ((l.getD q Dat.d0).acts.getD k Dat.d0).n.toNat 0 ≤ 0) : freeR q true ((l.getD q Dat.d0).acts.drop k) k h o = freeR q true ((l.getD q Dat.d0).acts.drop (k + 1)) (k + 1) (h ++ [((l.getD q Dat.d0).acts.getD k Dat.d0).n]) (o.set ((l.getD q Dat.d0).acts.getD k Dat.d0).n.toNat (q + 1)) := by
  rw [drop_at hk, freeR, if_neg h3, if_neg (by rintro (h | h); exact h1 h; cases h), if_neg (by omega)]
theorem fr_drop {l : List Work} {q k : Nat} {tk : Bool} {h o : List Int} (hk : k < (l.getD q Dat.d0).acts.length) (h3 : ((l.getD q Dat.d0).acts.getD k Dat.d0).kind = 3) : freeR q tk ((l.getD q Dat.d0).acts.drop k) k h o = freeR q tk ((l.getD q Dat.d0).acts.drop (k + 1)) (k + 1) (h.take (h.length - 1)) (o.set ((l.getD q Dat.d0).acts.getD k Dat.d0).n.toNat 0) := by
  rw [drop_at hk, freeR, if_pos h3]
theorem step_bad {l : List Work} {ws : List Wk} {cl o0 en h o : List Int} {clash t : Int} {q k : Nat} (hB : nextR l ws cl t ws.length 0 (-1) = q) (hR : freeR q true ((l.getD q Dat.d0).acts.drop (ws.getD q wk0).at_) (ws.getD q wk0).at_ (ws.getD q wk0).h o0 = (false, k, h, o)) :
    stepV l cl t ⟨ws, o0, en, clash⟩ = (-1, ⟨ws.set q ⟨k, (ws.getD q wk0).ran, h⟩, o, en, clash + 1⟩) := by
  unfold stepV
  dsimp only
  rw [hB, if_neg (by omega), Int.toNat_natCast, hR]
  rfl
theorem step_more {l : List Work} {ws : List Wk} {cl o0 en h o : List Int} {clash t : Int} {q k : Nat} (hB : nextR l ws cl t ws.length 0 (-1) = q) (hR : freeR q true ((l.getD q Dat.d0).acts.drop (ws.getD q wk0).at_) (ws.getD q wk0).at_ (ws.getD q wk0).h o0 = (true, k, h, o)) (h1 : ¬ (ws.getD q wk0).ran + 1 = ((l.getD q Dat.d0).acts.getD k Dat.d0).n) :
    stepV l cl t ⟨ws, o0, en, clash⟩ = ((q : Int), ⟨ws.set q ⟨k, (ws.getD q wk0).ran + 1, h⟩, o, en, clash⟩) := by
  unfold stepV
  dsimp only
  rw [hB, if_neg (by omega), Int.toNat_natCast, hR]
  dsimp only
  rw [if_neg (by decide), if_neg h1]
theorem step_done {l : List Work} {ws : List Wk} {cl o0 en h o h2 o2 : List Int} {clash t : Int} {q k k2 : Nat} {b2 : Bool} (hB : nextR l ws cl t ws.length 0 (-1) = q) (hR : freeR q true ((l.getD q Dat.d0).acts.drop (ws.getD q wk0).at_) (ws.getD q wk0).at_ (ws.getD q wk0).h o0 = (true, k, h, o)) (h1 : (ws.getD q wk0).ran + 1 = ((l.getD q Dat.d0).acts.getD k Dat.d0).n)
    (hR2 : freeR q false ((l.getD q Dat.d0).acts.drop (k + 1)) (k + 1) h o = (b2, k2, h2, o2)) :
    stepV l cl t ⟨ws, o0, en, clash⟩ = ((q : Int), ⟨ws.set q ⟨k2, 0, h2⟩, o2, if k2 = (l.getD q Dat.d0).acts.length then en.set q (t + 1) else en, clash⟩) := by
  unfold stepV
  dsimp only
  rw [hB, if_neg (by omega), Int.toNat_natCast, hR]
  dsimp only
  rw [if_neg (by decide), if_pos h1, hR2]
set_option maxRecDepth 100000 in
set_option maxHeartbeats 4000000 in
theorem step1_vc (l : List Work) (ws : List Wk) (cl o0 rn en : List Int) (clash t : Int) (q : Nat) (hws : ws.length = l.length) (h8 : ws.length ≤ 8) (ho : o0.length = 8) (hn : ∀ q, q < ws.length → ∀ n ∈ (ws.getD q wk0).h, 0 ≤ n ∧ n < 8) (hl : ∀ q, q < ws.length → (ws.getD q wk0).h.length ≤ 1000) (hcl : cl.length = 8) (hen : en.length = ws.length)
    (hA : (l.getD q Dat.d0).acts.length ≤ 30) (hh : (ws.getD q wk0).h.length ≤ (ws.getD q wk0).at_) (runs0 : Bool) (hx : FrI (l.getD q Dat.d0).acts true (ws.getD q wk0).at_ (ws.getD q wk0).h runs0) (hrn : 0 ≤ (ws.getD q wk0).ran ∧ (ws.getD q wk0).ran ≤ 100) (ht : 0 ≤ t ∧ t ≤ 20000) (hc : 0 ≤ clash ∧ clash ≤ 20000) (hq : q < ws.length) (hB : nextR l ws cl t ws.length 0 (-1) = q) (S : Int × HS) (hS : stepV l cl t ⟨ws, o0, en, clash⟩ = S) :
    FnOk Try.prog 14 [.ptr 0 0, .i .i64 fun _ => t] [hsO (fun _ => ws.length) (fun _ => rn.length) (fun _ => o0) fun _ => clash, wksO l fun _ => ws, vecO 3 fun _ => cl, vecO 3 fun _ => rn, vecO 3 fun _ => en] (outLe 5 (.i .i64 fun _ => S.1)
      [hsO (fun _ => ws.length) (fun _ => rn.length) (fun _ => S.2.o) fun _ => S.2.clash, wksO l fun _ => S.2.ws, vecO 3 fun _ => cl, vecO 3 fun _ => rn, vecO 3 fun _ => S.2.en] [1]) := by
  refine fn_ok envOk zl (cSt_ok (l := l) (cl := cl) (o := o0) (rn := rn) (en := en) (clash := clash) hB h8 hn hl) (mixD_ok envOk zl cFr_ok dFr_ok mixed) (keep := [0, 1, 4, 5, 6, 11, 15, 55, 80]) Try.func14 rfl ?_
  cbv
  repeat' first | (show Stp _; exfalso; first | omega | (exact h ‹_›) | (exact absurd ‹_› h) | (exact Bool.false_ne_true (h.symm.trans (show _ = true by assumption)))) | (refine Stp.mk ?_; cbv) | (refine Gen.mk fun r hr => ?_; (try simp only [Dat.ok, Dat.dec, Leaf.ok, Leaf.val, Act.eta, Work.eta, Locked.eta, val_sl, val_nil] at hr); cbv) | exact trivial | rfl | refine Both.mk ?_ ?_ | (refine Imp.mk fun h => ?_; (try dsimp only at h); (try simp only [nc, Int.toNat_natCast, ne_eq, zz] at h); (try simp only [nc] at h)) | refine Ob.mk ?_ ?_ | refine Chk.mk (by kernel_rfl) ?_ | refine Eq'.mk ?_ | (refine AllN.mk fun i hi => ?_; cbv) | (refine AllC.mk fun c hc hcm => ?_; (try dsimp only at hc); cbv) | (refine AllS.mk fun r hr => ?_; (try simp only [Dat.ok, Dat.dec, Leaf.ok, Leaf.val, Act.eta, Work.eta, Locked.eta, val_sl] at hr); cbv)
  all_goals ((try dsimp only at *); (try simp only [nc, Int.toNat_natCast, ne_eq, zz] at *); (try simp only [nc] at *))
  all_goals try simp only [Int.ofNat_eq_natCast, Int.toNat_natCast] at *
  all_goals try first
    | omega
    | (refine ⟨trivial, ?_⟩
       cbv
       repeat' first | (refine Stp.mk ?_; cbv) | (refine Gen.mk fun r hr => ?_; (try simp only [Dat.ok, Dat.dec, Leaf.ok, Leaf.val, Act.eta, Work.eta, Locked.eta, val_sl, val_nil] at hr); cbv) | exact trivial | rfl | refine Both.mk ?_ ?_ | (refine Imp.mk fun h => ?_; (try dsimp only at h); (try simp only [nc, Int.toNat_natCast, ne_eq, zz] at h); (try simp only [nc] at h)) | refine Ob.mk ?_ ?_ | refine Chk.mk (by kernel_rfl) ?_ | refine Eq'.mk ?_ | (refine AllN.mk fun i hi => ?_; cbv) | (refine AllC.mk fun c hc hcm => ?_; (try dsimp only at hc); cbv) | (refine AllS.mk fun r hr => ?_; (try simp only [Dat.ok, Dat.dec, Leaf.ok, Leaf.val, Act.eta, Work.eta, Locked.eta, val_sl] at hr); cbv)
       done)
  have hat := (hx.ht rfl).1
  refine LoopVC.frame [6, 8, 26, 59, 73, 81] (FrY l q (ws.getD q wk0).at_ (ws.getD q wk0).h true o0) (fun x => []) (fun x => [(0, hsO (fun _ => ws.length) (fun _ => rn.length) (fun _ => x.o) fun _ => clash), (5, .blk [.i .i64 fun _ => (l.getD q Dat.d0).came, .sl 2 (fun _ => (l.getD q Dat.d0).acts.length) fun j => Dat.enc fun _ => (l.getD q Dat.d0).acts.getD (j ()) Dat.d0, .i .i64 fun _ => (x.k : Int), .i .i64 fun _ => (ws.getD q wk0).ran, .own 6 fun _ => x.m]), (6, vecO 3 fun _ => x.l0)]) [6] (fun x => (l.getD q Dat.d0).acts.length - x.k)
    ⟨(ws.getD q wk0).at_, (ws.getD q wk0).h, (ws.getD q wk0).h.length, o0, runs0, by omega, Nat.le_refl _, hh, ho, by rw [List.take_length]; exact hx, by rw [List.take_length]⟩ rfl (fun _ => rfl) ?_ ?_ fun ⟨k, l0, m, o, runs, hk, hm, hl, ho, hx, he⟩ => ?_
  iterate 2
    · cbv
      repeat' first | (refine Stp.mk ?_; cbv) | (refine Gen.mk fun r hr => ?_; (try simp only [Dat.ok, Dat.dec, Leaf.ok, Leaf.val, Act.eta, Work.eta, Locked.eta, val_sl, val_nil] at hr); cbv) | exact trivial | rfl | refine Both.mk ?_ ?_ | (refine Imp.mk fun h => ?_; (try dsimp only at h); (try simp only [nc, Int.toNat_natCast, ne_eq, zz] at h); (try simp only [nc] at h)) | refine Ob.mk ?_ ?_ | refine Chk.mk (by kernel_rfl) ?_ | refine Eq'.mk ?_ | (refine AllN.mk fun i hi => ?_; cbv) | (refine AllC.mk fun c hc hcm => ?_; (try dsimp only at hc); cbv) | (refine AllS.mk fun r hr => ?_; (try simp only [Dat.ok, Dat.dec, Leaf.ok, Leaf.val, Act.eta, Work.eta, Locked.eta, val_sl] at hr); cbv)
  · have hkl := (hx.ht rfl).1
    have hlen : (l0.take m).length = m := by rw [List.length_take]; omega
    cbv
    repeat' first | (show Stp _; exfalso; first | omega | (exact h ‹_›) | (exact absurd ‹_› h) | (exact Bool.false_ne_true (h.symm.trans (show _ = true by assumption)))) | (refine Stp.mk ?_; cbv) | (refine Gen.mk fun r hr => ?_; (try simp only [Dat.ok, Dat.dec, Leaf.ok, Leaf.val, Act.eta, Work.eta, Locked.eta, val_sl, val_nil] at hr); cbv) | exact trivial | rfl | refine Both.mk ?_ ?_ | (refine Imp.mk fun h => ?_; (try dsimp only at h); (try simp only [nc, Int.toNat_natCast, ne_eq, zz] at h); (try simp only [nc] at h)) | refine Ob.mk ?_ ?_ | refine Chk.mk (by kernel_rfl) ?_ | refine Eq'.mk ?_ | (refine AllN.mk fun i hi => ?_; cbv) | (refine AllC.mk fun c hc hcm => ?_; (try dsimp only at hc); cbv) | (refine AllS.mk fun r hr => ?_; (try simp only [Dat.ok, Dat.dec, Leaf.ok, Leaf.val, Act.eta, Work.eta, Locked.eta, val_sl] at hr); cbv)
    all_goals ((try dsimp only at *); (try simp only [nc, Int.toNat_natCast, ne_eq, zz] at *); (try simp only [nc] at *))
    all_goals try rw [nc] at *
    all_goals try simp only [not_true_eq_false] at *
    all_goals first
      | omega
      | contradiction
      | (unfold InR; omega)
      | (exfalso; omega)
      | exact ⟨hm, Nat.le_refl _, by omega, by omega⟩
      | (have c1 : ((l.getD q Dat.d0).acts.getD k Dat.d0).kind = 3 := by assumption
         have n1 := hx.drop hkl c1
         have e1 : (l0.take m).take ((l0.take m).length - 1) = l0.take (m - 1) := by rw [hlen, List.take_take, show min (m - 1) m = m - 1 by omega]
         first
           | omega
           | exact ⟨trivial, by omega, by omega⟩
           | (show (_ : Int).toNat < 8; omega)
           | (refine ⟨⟨k + 1, l0, m - 1, o.set ((l.getD q Dat.d0).acts.getD k Dat.d0).n.toNat 0, runs, by omega, by omega, by omega, by rw [List.length_set]; exact ho, e1 ▸ n1.2.2, he.trans ((fr_drop hkl c1).trans (by rw [e1]))⟩, ?_, ?_, rfl, by (try dsimp only); omega⟩
              · cbv
                repeat' first | (refine Stp.mk ?_; cbv) | (refine Gen.mk fun r hr => ?_; (try simp only [Dat.ok, Dat.dec, Leaf.ok, Leaf.val, Act.eta, Work.eta, Locked.eta, val_sl, val_nil] at hr); cbv) | exact trivial | rfl | refine Both.mk ?_ ?_ | (refine Imp.mk fun h => ?_; (try dsimp only at h); (try simp only [nc, Int.toNat_natCast, ne_eq, zz] at h); (try simp only [nc] at h)) | refine Ob.mk ?_ ?_ | refine Chk.mk (by kernel_rfl) ?_ | refine Eq'.mk ?_ | (refine AllN.mk fun i hi => ?_; cbv) | (refine AllC.mk fun c hc hcm => ?_; (try dsimp only at hc); cbv) | (refine AllS.mk fun r hr => ?_; (try simp only [Dat.ok, Dat.dec, Leaf.ok, Leaf.val, Act.eta, Work.eta, Locked.eta, val_sl] at hr); cbv)
              · cbv
                repeat' first | (refine Stp.mk ?_; cbv) | (refine Gen.mk fun r hr => ?_; (try simp only [Dat.ok, Dat.dec, Leaf.ok, Leaf.val, Act.eta, Work.eta, Locked.eta, val_sl, val_nil] at hr); cbv) | exact trivial | rfl | refine Both.mk ?_ ?_ | (refine Imp.mk fun h => ?_; (try dsimp only at h); (try simp only [nc, Int.toNat_natCast, ne_eq, zz] at h); (try simp only [nc] at h)) | refine Ob.mk ?_ ?_ | refine Chk.mk (by kernel_rfl) ?_ | refine Eq'.mk ?_ | (refine AllN.mk fun i hi => ?_; cbv) | (refine AllC.mk fun c hc hcm => ?_; (try dsimp only at hc); cbv) | (refine AllS.mk fun r hr => ?_; (try simp only [Dat.ok, Dat.dec, Leaf.ok, Leaf.val, Act.eta, Work.eta, Locked.eta, val_sl] at hr); cbv)
                all_goals first | rfl | omega | (show ((m : Int) - 1).toNat = m - 1; omega) | exact own_set (by omega) | fail)
           | fail)
      | (have c1 : ¬ ((l.getD q Dat.d0).acts.getD k Dat.d0).kind = 3 := by assumption
         have c2 : ¬ ((l.getD q Dat.d0).acts.getD k Dat.d0).kind = 1 := by assumption
         have n1 := hx.take hkl c1 c2
         first
           | omega
           | (show (_ : Int).toNat < 8; omega)
           | (have c8 : ((l.getD q Dat.d0).acts.getD k Dat.d0).n.toNat < 8 := by omega
              have c4 : 0 < o.getD ((l.getD q Dat.d0).acts.getD k Dat.d0).n.toNat 0 := own_lt c8 (by assumption)
              obtain rfl := (step_bad (en := en) (clash := clash) hB (he.trans (fr_bad hkl c1 c2 c4))).symm.trans hS
              first | rfl | (exact List.length_set.symm) | exact bif_same (fun x => (l.getD x Dat.d0).came) | (exact setW_f (fun x => (x.at_ : Int)) (by assumption) rfl) | (exact setW_f (fun x => x.ran) (by assumption) rfl) | (exact setW_f (fun x => x.h.length) (by assumption) (by first | exact hlen.symm | exact hlen2.symm)) | (exact setW_c (by assumption) rfl (by assumption)) | (exact set_cond (by assumption)) | (subst_vars; rfl) | fail)
           | (have c8 : ((l.getD q Dat.d0).acts.getD k Dat.d0).n.toNat < 8 := by omega
              have c4 : o.getD ((l.getD q Dat.d0).acts.getD k Dat.d0).n.toNat 0 ≤ 0 := own_le c8 (by assumption)
              have hl2 : (l0.take m ++ [((l.getD q Dat.d0).acts.getD k Dat.d0).n]).length = m + 1 := by rw [List.length_append, hlen]; rfl
              have e8 : (l0.take m ++ [((l.getD q Dat.d0).acts.getD k Dat.d0).n]).take (m + 1) = l0.take m ++ [((l.getD q Dat.d0).acts.getD k Dat.d0).n] := List.take_of_length_le (by omega)
              refine ⟨⟨k + 1, l0.take m ++ [((l.getD q Dat.d0).acts.getD k Dat.d0).n], m + 1, o.set ((l.getD q Dat.d0).acts.getD k Dat.d0).n.toNat (q + 1), false, by omega, by omega, by omega, by rw [List.length_set]; exact ho, by rw [e8]; exact n1.2, by rw [e8]; exact he.trans (fr_take hkl c1 c2 c4)⟩, ?_, ?_, rfl, by (try dsimp only); omega⟩
              · cbv
                repeat' first | (refine Stp.mk ?_; cbv) | (refine Gen.mk fun r hr => ?_; (try simp only [Dat.ok, Dat.dec, Leaf.ok, Leaf.val, Act.eta, Work.eta, Locked.eta, val_sl, val_nil] at hr); cbv) | exact trivial | rfl | refine Both.mk ?_ ?_ | (refine Imp.mk fun h => ?_; (try dsimp only at h); (try simp only [nc, Int.toNat_natCast, ne_eq, zz] at h); (try simp only [nc] at h)) | refine Ob.mk ?_ ?_ | refine Chk.mk (by kernel_rfl) ?_ | refine Eq'.mk ?_ | (refine AllN.mk fun i hi => ?_; cbv) | (refine AllC.mk fun c hc hcm => ?_; (try dsimp only at hc); cbv) | (refine AllS.mk fun r hr => ?_; (try simp only [Dat.ok, Dat.dec, Leaf.ok, Leaf.val, Act.eta, Work.eta, Locked.eta, val_sl] at hr); cbv)
              · cbv
                repeat' first | (refine Stp.mk ?_; cbv) | (refine Gen.mk fun r hr => ?_; (try simp only [Dat.ok, Dat.dec, Leaf.ok, Leaf.val, Act.eta, Work.eta, Locked.eta, val_sl, val_nil] at hr); cbv) | exact trivial | rfl | refine Both.mk ?_ ?_ | (refine Imp.mk fun h => ?_; (try dsimp only at h); (try simp only [nc, Int.toNat_natCast, ne_eq, zz] at h); (try simp only [nc] at h)) | refine Ob.mk ?_ ?_ | refine Chk.mk (by kernel_rfl) ?_ | refine Eq'.mk ?_ | (refine AllN.mk fun i hi => ?_; cbv) | (refine AllC.mk fun c hc hcm => ?_; (try dsimp only at hc); cbv) | (refine AllS.mk fun r hr => ?_; (try simp only [Dat.ok, Dat.dec, Leaf.ok, Leaf.val, Act.eta, Work.eta, Locked.eta, val_sl] at hr); cbv)
                all_goals ((try dsimp only at *); (try simp only [nc, Int.toNat_natCast, ne_eq, zz] at *); (try simp only [nc] at *))
                all_goals first | rfl | omega | exact own_set (by omega) | exact hl2.symm | exact snocT hm (by assumption) | fail)
           | fail)
      | (have c1 : (l.getD q Dat.d0).acts.getD k Dat.d0 = (l.getD q Dat.d0).acts.getD k Dat.d0 ∧ ((l.getD q Dat.d0).acts.getD k Dat.d0).kind = 1 := ⟨rfl, by assumption⟩
         have hx2 := (hx.ran c1.2).2
         refine LoopVC.frame [6, 8, 26, 59, 73, 81] (FrY l q (k + 1) (l0.take m) false o) (fun x => []) (fun x => [(0, hsO (fun _ => ws.length) (fun _ => rn.length) (fun _ => x.o) fun _ => clash), (5, .blk [.i .i64 fun _ => (l.getD q Dat.d0).came, .sl 2 (fun _ => (l.getD q Dat.d0).acts.length) fun j => Dat.enc fun _ => (l.getD q Dat.d0).acts.getD (j ()) Dat.d0, .i .i64 fun _ => (x.k : Int), .i .i64 fun _ => 0, .own 6 fun _ => x.m]), (6, vecO 3 fun _ => x.l0)]) [6] (fun x => (l.getD q Dat.d0).acts.length - x.k)
           ⟨k + 1, l0, m, o, true, hkl, hm, by omega, ho, hx2, rfl⟩ rfl (fun _ => rfl) ?_ ?_ fun ⟨k2, l2, m2, o2, runs2, hk2, hm2, hl2, ho2, hx2, he2⟩ => ?_
         iterate 2
           · cbv
             repeat' first | (refine Stp.mk ?_; cbv) | (refine Gen.mk fun r hr => ?_; (try simp only [Dat.ok, Dat.dec, Leaf.ok, Leaf.val, Act.eta, Work.eta, Locked.eta, val_sl, val_nil] at hr); cbv) | exact trivial | rfl | refine Both.mk ?_ ?_ | (refine Imp.mk fun h => ?_; (try dsimp only at h); (try simp only [nc, Int.toNat_natCast, ne_eq, zz] at h); (try simp only [nc] at h)) | refine Ob.mk ?_ ?_ | refine Chk.mk (by kernel_rfl) ?_ | refine Eq'.mk ?_ | (refine AllN.mk fun i hi => ?_; cbv) | (refine AllC.mk fun c hc hcm => ?_; (try dsimp only at hc); cbv) | (refine AllS.mk fun r hr => ?_; (try simp only [Dat.ok, Dat.dec, Leaf.ok, Leaf.val, Act.eta, Work.eta, Locked.eta, val_sl] at hr); cbv)
         · cbv
           repeat' first | (show Stp _; exfalso; first | omega | (exact h ‹_›) | (exact absurd ‹_› h) | (exact Bool.false_ne_true (h.symm.trans (show _ = true by assumption)))) | (refine Stp.mk ?_; cbv) | (refine Gen.mk fun r hr => ?_; (try simp only [Dat.ok, Dat.dec, Leaf.ok, Leaf.val, Act.eta, Work.eta, Locked.eta, val_sl, val_nil] at hr); cbv) | exact trivial | rfl | refine Both.mk ?_ ?_ | (refine Imp.mk fun h => ?_; (try dsimp only at h); (try simp only [nc, Int.toNat_natCast, ne_eq, zz] at h); (try simp only [nc] at h)) | refine Ob.mk ?_ ?_ | refine Chk.mk (by kernel_rfl) ?_ | refine Eq'.mk ?_ | (refine AllN.mk fun i hi => ?_; cbv) | (refine AllC.mk fun c hc hcm => ?_; (try dsimp only at hc); cbv) | (refine AllS.mk fun r hr => ?_; (try simp only [Dat.ok, Dat.dec, Leaf.ok, Leaf.val, Act.eta, Work.eta, Locked.eta, val_sl] at hr); cbv)
           all_goals ((try dsimp only at *); (try simp only [nc, Int.toNat_natCast, ne_eq, zz] at *); (try simp only [nc] at *))
           all_goals try rw [nc] at *
           all_goals try simp only [not_true_eq_false] at *
           all_goals first
             | omega
             | contradiction
             | (unfold InR; omega)
             | (have k0 : k2 < (l.getD q Dat.d0).acts.length := by omega
                have d1 : ((l.getD q Dat.d0).acts.getD k2 Dat.d0).kind = 3 := by assumption
                have n1 := hx2.drop k0 d1
                have hlen2 : (l2.take m2).length = m2 := by rw [List.length_take]; omega
                have e1 : (l2.take m2).take ((l2.take m2).length - 1) = l2.take (m2 - 1) := by rw [hlen2, List.take_take, show min (m2 - 1) m2 = m2 - 1 by omega]
                first
                  | omega
                  | exact ⟨trivial, by omega, by omega⟩
                  | (show (_ : Int).toNat < 8; omega)
                  | (refine ⟨⟨k2 + 1, l2, m2 - 1, o2.set ((l.getD q Dat.d0).acts.getD k2 Dat.d0).n.toNat 0, runs2, by omega, by omega, by omega, by rw [List.length_set]; exact ho2, e1 ▸ n1.2.2, he2.trans ((fr_drop k0 d1).trans (by rw [e1]))⟩, ?_, ?_, rfl, by (try dsimp only); omega⟩
                     · cbv
                       repeat' first | (refine Stp.mk ?_; cbv) | (refine Gen.mk fun r hr => ?_; (try simp only [Dat.ok, Dat.dec, Leaf.ok, Leaf.val, Act.eta, Work.eta, Locked.eta, val_sl, val_nil] at hr); cbv) | exact trivial | rfl | refine Both.mk ?_ ?_ | (refine Imp.mk fun h => ?_; (try dsimp only at h); (try simp only [nc, Int.toNat_natCast, ne_eq, zz] at h); (try simp only [nc] at h)) | refine Ob.mk ?_ ?_ | refine Chk.mk (by kernel_rfl) ?_ | refine Eq'.mk ?_ | (refine AllN.mk fun i hi => ?_; cbv) | (refine AllC.mk fun c hc hcm => ?_; (try dsimp only at hc); cbv) | (refine AllS.mk fun r hr => ?_; (try simp only [Dat.ok, Dat.dec, Leaf.ok, Leaf.val, Act.eta, Work.eta, Locked.eta, val_sl] at hr); cbv)
                     · cbv
                       repeat' first | (refine Stp.mk ?_; cbv) | (refine Gen.mk fun r hr => ?_; (try simp only [Dat.ok, Dat.dec, Leaf.ok, Leaf.val, Act.eta, Work.eta, Locked.eta, val_sl, val_nil] at hr); cbv) | exact trivial | rfl | refine Both.mk ?_ ?_ | (refine Imp.mk fun h => ?_; (try dsimp only at h); (try simp only [nc, Int.toNat_natCast, ne_eq, zz] at h); (try simp only [nc] at h)) | refine Ob.mk ?_ ?_ | refine Chk.mk (by kernel_rfl) ?_ | refine Eq'.mk ?_ | (refine AllN.mk fun i hi => ?_; cbv) | (refine AllC.mk fun c hc hcm => ?_; (try dsimp only at hc); cbv) | (refine AllS.mk fun r hr => ?_; (try simp only [Dat.ok, Dat.dec, Leaf.ok, Leaf.val, Act.eta, Work.eta, Locked.eta, val_sl] at hr); cbv)
                       all_goals first | rfl | omega | (show ((m2 : Int) - 1).toNat = m2 - 1; omega) | exact own_set (by omega) | fail))
             | (have hlen2 : (l2.take m2).length = m2 := by rw [List.length_take]; omega
                have s1 := he.trans (fr_run hkl c1.2)
                have w1 : (ws.getD q wk0).ran + 1 = ((l.getD q Dat.d0).acts.getD k Dat.d0).n := by assumption
                first
                  | (have k0 : k2 < (l.getD q Dat.d0).acts.length := by omega
                     have d1 : ¬ ((l.getD q Dat.d0).acts.getD k2 Dat.d0).kind = 3 := by assumption
                     have s3 := step_done (en := en) (clash := clash) hB s1 w1 (he2.trans (fr_no k0 d1 rfl))
                     rw [if_neg (by omega)] at s3
                     obtain rfl := s3.symm.trans hS
                     first | rfl | (exact List.length_set.symm) | exact bif_same (fun x => (l.getD x Dat.d0).came) | (exact setW_f (fun x => (x.at_ : Int)) (by assumption) rfl) | (exact setW_f (fun x => x.ran) (by assumption) rfl) | (exact setW_f (fun x => x.h.length) (by assumption) (by first | exact hlen.symm | exact hlen2.symm)) | (exact setW_c (by assumption) rfl (by assumption)) | (exact set_cond (by assumption)) | (subst_vars; rfl) | fail)
                  | (have k0 : k2 = (l.getD q Dat.d0).acts.length := by omega
                     have s3 := step_done (en := en) (clash := clash) hB s1 w1 (he2.trans (fr_end (by omega)))
                     rw [if_pos k0] at s3
                     obtain rfl := s3.symm.trans hS
                     first | rfl | (exact List.length_set.symm) | exact bif_same (fun x => (l.getD x Dat.d0).came) | (exact setW_f (fun x => (x.at_ : Int)) (by assumption) rfl) | (exact setW_f (fun x => x.ran) (by assumption) rfl) | (exact setW_f (fun x => x.h.length) (by assumption) (by first | exact hlen.symm | exact hlen2.symm)) | (exact setW_c (by assumption) rfl (by assumption)) | (exact set_cond (by assumption)) | (subst_vars; rfl) | fail)
                  | fail))
      | (have c1 : ((l.getD q Dat.d0).acts.getD k Dat.d0).kind = 1 := by assumption
         have w1 : ¬ (ws.getD q wk0).ran + 1 = ((l.getD q Dat.d0).acts.getD k Dat.d0).n := by assumption
         obtain rfl := (step_more (en := en) (clash := clash) hB (he.trans (fr_run hkl c1)) w1).symm.trans hS
         first | rfl | (exact List.length_set.symm) | exact bif_same (fun x => (l.getD x Dat.d0).came) | (exact setW_f (fun x => (x.at_ : Int)) (by assumption) rfl) | (exact setW_f (fun x => x.ran) (by assumption) rfl) | (exact setW_f (fun x => x.h.length) (by assumption) (by first | exact hlen.symm | exact hlen2.symm)) | (exact setW_c (by assumption) rfl (by assumption)) | (exact set_cond (by assumption)) | (subst_vars; rfl) | fail)
      | fail

end Go.Proofs.Ythbdlihmafcioaa
