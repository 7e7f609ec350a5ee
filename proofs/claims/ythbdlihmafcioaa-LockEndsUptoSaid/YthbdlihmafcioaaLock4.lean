/- lock.house: urgent, next: walked on what is lent. -/
import Derived.Test.YthbdlihmafcioaaLock3
set_option linter.all false
namespace Go.Proofs.Ythbdlihmafcioaa
open Go Go.Abs

def hsC (l : List Work) (ws : Th (List Wk)) (cl o rn en : Th (List Int)) (clash : Th Int) : AV := .rp ([.sl 1 (fun _ => (ws ()).length) (fun i => [.rp [.i .i64 fun _ => (l.getD (i ()) Dat.d0).came, .sl 2 (fun _ => (l.getD (i ()) Dat.d0).acts.length) fun j => Dat.enc fun _ => (l.getD (i ()) Dat.d0).acts.getD (j ()) Dat.d0,
  .i .i64 fun _ => (((ws ()).getD (i ()) wk0).at_ : Int), .i .i64 fun _ => ((ws ()).getD (i ()) wk0).ran, .sl 1 (fun _ => ((ws ()).getD (i ()) wk0).h.length) fun j => Dat.enc fun _ => ((ws ()).getD (i ()) wk0).h.getD (j ()) Dat.d0]]), .sl 1 (fun _ => 8) fun j => Dat.enc fun _ => (cl ()).getD (j ()) Dat.d0] ++ ownC o ++
  [.sl 1 (fun _ => (rn ()).length) (fun j => Dat.enc fun _ => (rn ()).getD (j ()) Dat.d0), .sl 1 (fun _ => (ws ()).length) (fun j => Dat.enc fun _ => (en ()).getD (j ()) Dat.d0), .i .i64 clash])
theorem min_if {a u : Int} : (if a < u then a else u) = min u a := by split <;> omega
structure UrX (cl h : List Int) (u0 : Int) where
  k : Nat
  u : Int
  hk : k ≤ h.length
  he : urgR cl u0 h = urgR cl u (h.drop k)
set_option maxRecDepth 100000 in
set_option maxHeartbeats 4000000 in
theorem urgent_vc (l : List Work) (ws : List Wk) (cl o rn en : List Int) (clash : Int) (q : Nat) (hq : q < ws.length) (hn : ∀ n ∈ (ws.getD q wk0).h, 0 ≤ n ∧ n < 8) (hl : (ws.getD q wk0).h.length ≤ 1000) :
    FnOk Try.prog 27 [hsC l (fun _ => ws) (fun _ => cl) (fun _ => o) (fun _ => rn) (fun _ => en) fun _ => clash, .i .i64 fun _ => (q : Int)] [] (outLe 0 (.i .i64 fun _ => urgR cl q (ws.getD q wk0).h) [] []) := by
  refine fn_ok envOk zl noCon_ok (draws_ok envOk zl dFr_ok mixed) (keep := [0, 1, 4, 6, 16, 17, 18, 19]) Try.func27 rfl ?_
  cbv
  repeat' first | (show Stp _; exfalso; first | omega | (exact h ‹_›) | (exact absurd ‹_› h) | (exact Bool.false_ne_true (h.symm.trans (show _ = true by assumption)))) | (refine Stp.mk ?_; cbv) | (refine Gen.mk fun r hr => ?_; (try simp only [Dat.ok, Dat.dec, Leaf.ok, Leaf.val, Act.eta, Work.eta, Locked.eta, val_sl, val_nil] at hr); cbv) | exact trivial | rfl | refine Both.mk ?_ ?_ | (refine Imp.mk fun h => ?_; (try dsimp only at h); (try simp only [nc, Int.toNat_natCast, ne_eq, zz] at h); (try simp only [nc] at h)) | refine Ob.mk ?_ ?_ | refine Chk.mk (by kernel_rfl) ?_ | refine Eq'.mk ?_ | (refine AllN.mk fun i hi => ?_; cbv) | (refine AllC.mk fun c hc hcm => ?_; (try dsimp only at hc); cbv) | (refine AllS.mk fun r hr => ?_; (try simp only [Dat.ok, Dat.dec, Leaf.ok, Leaf.val, Act.eta, Work.eta, Locked.eta, val_sl] at hr); cbv)
  all_goals ((try dsimp only at *); (try simp only [nc, Int.toNat_natCast, ne_eq, zz] at *); (try simp only [nc] at *))
  all_goals try omega
  refine LoopVC.frame [1, 6, 18, 19] (UrX cl (ws.getD q wk0).h q) (fun x => [(18, .i .i64 fun _ => x.k), (1, .i .i64 fun _ => x.u)]) (fun _ => []) [] (fun x => (ws.getD q wk0).h.length - x.k) ⟨0, q, Nat.zero_le _, by rw [List.drop_zero]⟩ rfl (fun _ => rfl) ?_ ?_ fun ⟨k, u, hk, he⟩ => ?_
  iterate 2
    · cbv
      repeat' first | (refine Stp.mk ?_; cbv) | (refine Gen.mk fun r hr => ?_; (try simp only [Dat.ok, Dat.dec, Leaf.ok, Leaf.val, Act.eta, Work.eta, Locked.eta, val_sl, val_nil] at hr); cbv) | exact trivial | rfl | refine Both.mk ?_ ?_ | (refine Imp.mk fun h => ?_; (try dsimp only at h); (try simp only [nc, Int.toNat_natCast, ne_eq, zz] at h); (try simp only [nc] at h)) | refine Ob.mk ?_ ?_ | refine Chk.mk (by kernel_rfl) ?_ | refine Eq'.mk ?_ | (refine AllN.mk fun i hi => ?_; cbv) | (refine AllC.mk fun c hc hcm => ?_; (try dsimp only at hc); cbv) | (refine AllS.mk fun r hr => ?_; (try simp only [Dat.ok, Dat.dec, Leaf.ok, Leaf.val, Act.eta, Work.eta, Locked.eta, val_sl] at hr); cbv)
  · have nx : k < (ws.getD q wk0).h.length → (0 ≤ (ws.getD q wk0).h.getD k Dat.d0 ∧ (ws.getD q wk0).h.getD k Dat.d0 < 8) ∧ urgR cl q (ws.getD q wk0).h = urgR cl (min u (cl.getD ((ws.getD q wk0).h.getD k Dat.d0).toNat 0)) ((ws.getD q wk0).h.drop (k + 1)) := fun h => ⟨hn _ (getD_in h), by rw [he, drop_cons Dat.d0 h, urgR]⟩
    have ex : (ws.getD q wk0).h.length ≤ k → urgR cl q (ws.getD q wk0).h = u := fun h => by rw [he, List.drop_eq_nil_of_le h, urgR]
    cbv
    repeat' first | (show Stp _; exfalso; first | omega | (exact h ‹_›) | (exact absurd ‹_› h) | (exact Bool.false_ne_true (h.symm.trans (show _ = true by assumption)))) | (refine Stp.mk ?_; cbv) | (refine Gen.mk fun r hr => ?_; (try simp only [Dat.ok, Dat.dec, Leaf.ok, Leaf.val, Act.eta, Work.eta, Locked.eta, val_sl, val_nil] at hr); cbv) | exact trivial | rfl | refine Both.mk ?_ ?_ | (refine Imp.mk fun h => ?_; (try dsimp only at h); (try simp only [nc, Int.toNat_natCast, ne_eq, zz] at h); (try simp only [nc] at h)) | refine Ob.mk ?_ ?_ | refine Chk.mk (by kernel_rfl) ?_ | refine Eq'.mk ?_ | (refine AllN.mk fun i hi => ?_; cbv) | (refine AllC.mk fun c hc hcm => ?_; (try dsimp only at hc); cbv) | (refine AllS.mk fun r hr => ?_; (try simp only [Dat.ok, Dat.dec, Leaf.ok, Leaf.val, Act.eta, Work.eta, Locked.eta, val_sl] at hr); cbv)
    all_goals ((try dsimp only at *); (try simp only [nc, Int.toNat_natCast, ne_eq, zz] at *); (try simp only [nc] at *))
    all_goals try rw [nc] at *
    all_goals first
      | omega
      | (unfold InR; omega)
      | (have c0 : k < (ws.getD q wk0).h.length := by omega
         have n1 := nx c0
         first
           | omega
           | (refine ⟨⟨k + 1, min u (cl.getD ((ws.getD q wk0).h.getD k Dat.d0).toNat 0), by omega, n1.2⟩, ?_, ?_, rfl, by (try dsimp only); omega⟩
              · cbv
                repeat' first | (refine Stp.mk ?_; cbv) | (refine Gen.mk fun r hr => ?_; (try simp only [Dat.ok, Dat.dec, Leaf.ok, Leaf.val, Act.eta, Work.eta, Locked.eta, val_sl, val_nil] at hr); cbv) | exact trivial | rfl | refine Both.mk ?_ ?_ | (refine Imp.mk fun h => ?_; (try dsimp only at h); (try simp only [nc, Int.toNat_natCast, ne_eq, zz] at h); (try simp only [nc] at h)) | refine Ob.mk ?_ ?_ | refine Chk.mk (by kernel_rfl) ?_ | refine Eq'.mk ?_ | (refine AllN.mk fun i hi => ?_; cbv) | (refine AllC.mk fun c hc hcm => ?_; (try dsimp only at hc); cbv) | (refine AllS.mk fun r hr => ?_; (try simp only [Dat.ok, Dat.dec, Leaf.ok, Leaf.val, Act.eta, Work.eta, Locked.eta, val_sl] at hr); cbv)
                all_goals first | rfl | exact min_if | fail
              · cbv
                repeat' first | (refine Stp.mk ?_; cbv) | (refine Gen.mk fun r hr => ?_; (try simp only [Dat.ok, Dat.dec, Leaf.ok, Leaf.val, Act.eta, Work.eta, Locked.eta, val_sl, val_nil] at hr); cbv) | exact trivial | rfl | refine Both.mk ?_ ?_ | (refine Imp.mk fun h => ?_; (try dsimp only at h); (try simp only [nc, Int.toNat_natCast, ne_eq, zz] at h); (try simp only [nc] at h)) | refine Ob.mk ?_ ?_ | refine Chk.mk (by kernel_rfl) ?_ | refine Eq'.mk ?_ | (refine AllN.mk fun i hi => ?_; cbv) | (refine AllC.mk fun c hc hcm => ?_; (try dsimp only at hc); cbv) | (refine AllS.mk fun r hr => ?_; (try simp only [Dat.ok, Dat.dec, Leaf.ok, Leaf.val, Act.eta, Work.eta, Locked.eta, val_sl] at hr); cbv)))
      | (have c0 : (ws.getD q wk0).h.length ≤ k := by omega
         have e := ex c0
         first | exact e.symm | exact e | fail)
      | fail
noncomputable def urgD (l : List Work) (ws : List Wk) (cl o rn en : List Int) (clash : Int) : Det := fun A => match A with
  | [x, .i .i64 i] => some (fun _ => (0 ≤ i () ∧ i () < ws.length) ∧ leL 0 [x] [hsC l (fun _ => ws) (fun _ => cl) (fun _ => o) (fun _ => rn) (fun _ => en) fun _ => clash], .i .i64 fun _ => urgR cl (i ()) (ws.getD (i ()).toNat wk0).h)
  | _ => none
theorem urgD_ok {l : List Work} {ws : List Wk} {cl o rn en : List Int} {clash : Int} (hn : ∀ q, q < ws.length → ∀ n ∈ (ws.getD q wk0).h, 0 ≤ n ∧ n < 8) (hl : ∀ q, q < ws.length → (ws.getD q wk0).h.length ≤ 1000) : PcOk Try.prog 27 (detPC (urgD l ws cl o rn en clash)) := det_ok fun A p r h hp => by
  unfold urgD at h
  split at h
  · rename_i x i
    cases h
    obtain ⟨⟨h0, h1⟩, h2⟩ := hp
    have hq : (i ()).toNat < ws.length := by omega
    have e : ((i ()).toNat : Int) = i () := Int.toNat_of_nonneg h0
    have := urgent_vc l ws cl o rn en clash (i ()).toNat hq (hn _ hq) (hl _ hq)
    rw [e] at this
    refine FnOk.pre this ?_
    cases h2 with
    | mk h2 h3 =>
      refine .mk h2 (.mk ?_ trivial)
      cbv
      repeat' first | (refine Stp.mk ?_; cbv) | (refine Gen.mk fun r hr => ?_; (try simp only [Dat.ok, Dat.dec, Leaf.ok, Leaf.val, Act.eta, Work.eta, Locked.eta, val_sl, val_nil] at hr); cbv) | exact trivial | rfl | refine Both.mk ?_ ?_ | (refine Imp.mk fun h => ?_; (try dsimp only at h); (try simp only [nc, Int.toNat_natCast, ne_eq, zz] at h); (try simp only [nc] at h)) | refine Ob.mk ?_ ?_ | refine Chk.mk (by kernel_rfl) ?_ | refine Eq'.mk ?_ | (refine AllN.mk fun i hi => ?_; cbv) | (refine AllC.mk fun c hc hcm => ?_; (try dsimp only at hc); cbv) | (refine AllS.mk fun r hr => ?_; (try simp only [Dat.ok, Dat.dec, Leaf.ok, Leaf.val, Act.eta, Work.eta, Locked.eta, val_sl] at hr); cbv)
  · cases h
noncomputable def dUr (l : List Work) (ws : List Wk) (cl o rn en : List Int) (clash : Int) : FuncId → Option Dt := fun f => match f with
  | 27 => some (.c (urgD l ws cl o rn en clash))
  | _ => none
theorem dUr_ok {l : List Work} {ws : List Wk} {cl o rn en : List Int} {clash : Int} (hn : ∀ q, q < ws.length → ∀ n ∈ (ws.getD q wk0).h, 0 ≤ n ∧ n < 8) (hl : ∀ q, q < ws.length → (ws.getD q wk0).h.length ≤ 1000) : DetOk Try.prog (dUr l ws cl o rn en clash) := fun f d h => by
  unfold dUr at h
  split at h
  · cases h; exact ⟨⟨Try.f27, Try.func27, by kernel_rfl, by kernel_rfl⟩, urgD_ok hn hl⟩
  · cases h
structure NxX (l : List Work) (ws : List Wk) (cl : List Int) (t : Int) where
  k : Nat
  b : Int
  hk : k ≤ ws.length
  hb : -1 ≤ b ∧ b < k
  he : nextR l ws cl t ws.length 0 (-1) = nextR l ws cl t (ws.length - k) k b
set_option maxRecDepth 100000 in
set_option maxHeartbeats 4000000 in
theorem next_vc (l : List Work) (ws : List Wk) (cl o rn en : List Int) (clash t : Int) (h8 : ws.length ≤ 8) (hn : ∀ q, q < ws.length → ∀ n ∈ (ws.getD q wk0).h, 0 ≤ n ∧ n < 8) (hl : ∀ q, q < ws.length → (ws.getD q wk0).h.length ≤ 1000) :
    FnOk Try.prog 20 [hsC l (fun _ => ws) (fun _ => cl) (fun _ => o) (fun _ => rn) (fun _ => en) fun _ => clash, .i .i64 fun _ => t] [] (outLe 0 (.i .i64 fun _ => nextR l ws cl t ws.length 0 (-1)) [] []) := by
  refine fn_ok envOk zl noCon_ok (draws_ok envOk zl (dUr_ok (l := l) (cl := cl) (o := o) (rn := rn) (en := en) (clash := clash) hn hl) mixed) (keep := [0, 1, 4, 5, 6, 7, 11, 12, 13, 14, 50]) Try.func20 rfl ?_
  cbv
  repeat' first | (show Stp _; exfalso; first | omega | (exact h ‹_›) | (exact absurd ‹_› h) | (exact Bool.false_ne_true (h.symm.trans (show _ = true by assumption)))) | (refine Stp.mk ?_; cbv) | (refine Gen.mk fun r hr => ?_; (try simp only [Dat.ok, Dat.dec, Leaf.ok, Leaf.val, Act.eta, Work.eta, Locked.eta, val_sl, val_nil] at hr); cbv) | exact trivial | rfl | refine Both.mk ?_ ?_ | (refine Imp.mk fun h => ?_; (try dsimp only at h); (try simp only [nc, Int.toNat_natCast, ne_eq, zz] at h); (try simp only [nc] at h)) | refine Ob.mk ?_ ?_ | refine Chk.mk (by kernel_rfl) ?_ | refine Eq'.mk ?_ | (refine AllN.mk fun i hi => ?_; cbv) | (refine AllC.mk fun c hc hcm => ?_; (try dsimp only at hc); cbv) | (refine AllS.mk fun r hr => ?_; (try simp only [Dat.ok, Dat.dec, Leaf.ok, Leaf.val, Act.eta, Work.eta, Locked.eta, val_sl] at hr); cbv)
  all_goals ((try dsimp only at *); (try simp only [nc, Int.toNat_natCast, ne_eq, zz] at *); (try simp only [nc] at *))
  all_goals try omega
  refine LoopVC.frame [5, 6, 7, 13, 14, 50] (NxX l ws cl t) (fun x => [(13, .i .i64 fun _ => x.k), (5, .i .i64 fun _ => x.b)]) (fun _ => []) [] (fun x => ws.length - x.k) ⟨0, -1, Nat.zero_le _, by omega, by rw [Nat.sub_zero]⟩ rfl (fun _ => rfl) ?_ ?_ fun ⟨k, b, hk, hb, he⟩ => ?_
  iterate 2
    · cbv
      repeat' first | (refine Stp.mk ?_; cbv) | (refine Gen.mk fun r hr => ?_; (try simp only [Dat.ok, Dat.dec, Leaf.ok, Leaf.val, Act.eta, Work.eta, Locked.eta, val_sl, val_nil] at hr); cbv) | exact trivial | rfl | refine Both.mk ?_ ?_ | (refine Imp.mk fun h => ?_; (try dsimp only at h); (try simp only [nc, Int.toNat_natCast, ne_eq, zz] at h); (try simp only [nc] at h)) | refine Ob.mk ?_ ?_ | refine Chk.mk (by kernel_rfl) ?_ | refine Eq'.mk ?_ | (refine AllN.mk fun i hi => ?_; cbv) | (refine AllC.mk fun c hc hcm => ?_; (try dsimp only at hc); cbv) | (refine AllS.mk fun r hr => ?_; (try simp only [Dat.ok, Dat.dec, Leaf.ok, Leaf.val, Act.eta, Work.eta, Locked.eta, val_sl] at hr); cbv)
  · have nx : k < ws.length → ∀ b', b' = (if (l.getD k Dat.d0).came ≤ t ∧ (ws.getD k wk0).at_ < (l.getD k Dat.d0).acts.length ∧ (b < 0 ∨ urgR cl k (ws.getD k wk0).h ≤ urgR cl b (ws.getD b.toNat wk0).h) then (k : Int) else b) → nextR l ws cl t ws.length 0 (-1) = nextR l ws cl t (ws.length - (k + 1)) (k + 1) b' := fun h b' hb' => by
      rw [he, hb', show ws.length - k = (ws.length - (k + 1)) + 1 by omega, nextR]
    have ex : ws.length ≤ k → nextR l ws cl t ws.length 0 (-1) = b := fun h => by rw [he, show ws.length - k = 0 by omega, nextR]
    cbv
    repeat' first | (show Stp _; exfalso; first | omega | (exact h ‹_›) | (exact absurd ‹_› h) | (exact Bool.false_ne_true (h.symm.trans (show _ = true by assumption)))) | (refine Stp.mk ?_; cbv) | (refine Gen.mk fun r hr => ?_; (try simp only [Dat.ok, Dat.dec, Leaf.ok, Leaf.val, Act.eta, Work.eta, Locked.eta, val_sl, val_nil] at hr); cbv) | exact trivial | rfl | refine Both.mk ?_ ?_ | (refine Imp.mk fun h => ?_; (try dsimp only at h); (try simp only [nc, Int.toNat_natCast, ne_eq, zz] at h); (try simp only [nc] at h)) | refine Ob.mk ?_ ?_ | refine Chk.mk (by kernel_rfl) ?_ | refine Eq'.mk ?_ | (refine AllN.mk fun i hi => ?_; cbv) | (refine AllC.mk fun c hc hcm => ?_; (try dsimp only at hc); cbv) | (refine AllS.mk fun r hr => ?_; (try simp only [Dat.ok, Dat.dec, Leaf.ok, Leaf.val, Act.eta, Work.eta, Locked.eta, val_sl] at hr); cbv)
    all_goals ((try dsimp only at *); (try simp only [nc, Int.toNat_natCast, ne_eq, zz] at *); (try simp only [nc] at *))
    all_goals try rw [nc] at *
    all_goals first
      | omega
      | (unfold InR; omega)
      | (refine ⟨⟨by omega, by omega⟩, ?_⟩
         cbv
         repeat' first | (refine Stp.mk ?_; cbv) | (refine Gen.mk fun r hr => ?_; (try simp only [Dat.ok, Dat.dec, Leaf.ok, Leaf.val, Act.eta, Work.eta, Locked.eta, val_sl, val_nil] at hr); cbv) | exact trivial | rfl | refine Both.mk ?_ ?_ | (refine Imp.mk fun h => ?_; (try dsimp only at h); (try simp only [nc, Int.toNat_natCast, ne_eq, zz] at h); (try simp only [nc] at h)) | refine Ob.mk ?_ ?_ | refine Chk.mk (by kernel_rfl) ?_ | refine Eq'.mk ?_ | (refine AllN.mk fun i hi => ?_; cbv) | (refine AllC.mk fun c hc hcm => ?_; (try dsimp only at hc); cbv) | (refine AllS.mk fun r hr => ?_; (try simp only [Dat.ok, Dat.dec, Leaf.ok, Leaf.val, Act.eta, Work.eta, Locked.eta, val_sl] at hr); cbv))
      | (have c0 : k < ws.length := by omega
         have cc : (l.getD k Dat.d0).came ≤ t ∧ (ws.getD k wk0).at_ < (l.getD k Dat.d0).acts.length ∧ (b < 0 ∨ urgR cl k (ws.getD k wk0).h ≤ urgR cl b (ws.getD b.toNat wk0).h) := by
           refine ⟨by omega, by omega, ?_⟩
           first | (exact .inl (by omega)) | (exact .inr (by assumption))
         have c1 := nx c0 k (if_pos cc).symm
         refine ⟨⟨k + 1, k, by omega, by omega, c1⟩, ?_, ?_, rfl, by (try dsimp only); omega⟩
         · cbv
           repeat' first | (refine Stp.mk ?_; cbv) | (refine Gen.mk fun r hr => ?_; (try simp only [Dat.ok, Dat.dec, Leaf.ok, Leaf.val, Act.eta, Work.eta, Locked.eta, val_sl, val_nil] at hr); cbv) | exact trivial | rfl | refine Both.mk ?_ ?_ | (refine Imp.mk fun h => ?_; (try dsimp only at h); (try simp only [nc, Int.toNat_natCast, ne_eq, zz] at h); (try simp only [nc] at h)) | refine Ob.mk ?_ ?_ | refine Chk.mk (by kernel_rfl) ?_ | refine Eq'.mk ?_ | (refine AllN.mk fun i hi => ?_; cbv) | (refine AllC.mk fun c hc hcm => ?_; (try dsimp only at hc); cbv) | (refine AllS.mk fun r hr => ?_; (try simp only [Dat.ok, Dat.dec, Leaf.ok, Leaf.val, Act.eta, Work.eta, Locked.eta, val_sl] at hr); cbv)
         · cbv
           repeat' first | (refine Stp.mk ?_; cbv) | (refine Gen.mk fun r hr => ?_; (try simp only [Dat.ok, Dat.dec, Leaf.ok, Leaf.val, Act.eta, Work.eta, Locked.eta, val_sl, val_nil] at hr); cbv) | exact trivial | rfl | refine Both.mk ?_ ?_ | (refine Imp.mk fun h => ?_; (try dsimp only at h); (try simp only [nc, Int.toNat_natCast, ne_eq, zz] at h); (try simp only [nc] at h)) | refine Ob.mk ?_ ?_ | refine Chk.mk (by kernel_rfl) ?_ | refine Eq'.mk ?_ | (refine AllN.mk fun i hi => ?_; cbv) | (refine AllC.mk fun c hc hcm => ?_; (try dsimp only at hc); cbv) | (refine AllS.mk fun r hr => ?_; (try simp only [Dat.ok, Dat.dec, Leaf.ok, Leaf.val, Act.eta, Work.eta, Locked.eta, val_sl] at hr); cbv))
      | (have c0 : k < ws.length := by omega
         have cc : ¬ ((l.getD k Dat.d0).came ≤ t ∧ (ws.getD k wk0).at_ < (l.getD k Dat.d0).acts.length ∧ (b < 0 ∨ urgR cl k (ws.getD k wk0).h ≤ urgR cl b (ws.getD b.toNat wk0).h)) := by
           rintro ⟨d1, d2, d3⟩
           first
             | omega
             | (rcases d3 with d3 | d3
                · omega
                · exact absurd d3 (Int.not_le.2 (by assumption)))
         have c1 := nx c0 b (if_neg cc).symm
         refine ⟨⟨k + 1, b, by omega, by omega, c1⟩, ?_, ?_, rfl, by (try dsimp only); omega⟩
         · cbv
           repeat' first | (refine Stp.mk ?_; cbv) | (refine Gen.mk fun r hr => ?_; (try simp only [Dat.ok, Dat.dec, Leaf.ok, Leaf.val, Act.eta, Work.eta, Locked.eta, val_sl, val_nil] at hr); cbv) | exact trivial | rfl | refine Both.mk ?_ ?_ | (refine Imp.mk fun h => ?_; (try dsimp only at h); (try simp only [nc, Int.toNat_natCast, ne_eq, zz] at h); (try simp only [nc] at h)) | refine Ob.mk ?_ ?_ | refine Chk.mk (by kernel_rfl) ?_ | refine Eq'.mk ?_ | (refine AllN.mk fun i hi => ?_; cbv) | (refine AllC.mk fun c hc hcm => ?_; (try dsimp only at hc); cbv) | (refine AllS.mk fun r hr => ?_; (try simp only [Dat.ok, Dat.dec, Leaf.ok, Leaf.val, Act.eta, Work.eta, Locked.eta, val_sl] at hr); cbv)
         · cbv
           repeat' first | (refine Stp.mk ?_; cbv) | (refine Gen.mk fun r hr => ?_; (try simp only [Dat.ok, Dat.dec, Leaf.ok, Leaf.val, Act.eta, Work.eta, Locked.eta, val_sl, val_nil] at hr); cbv) | exact trivial | rfl | refine Both.mk ?_ ?_ | (refine Imp.mk fun h => ?_; (try dsimp only at h); (try simp only [nc, Int.toNat_natCast, ne_eq, zz] at h); (try simp only [nc] at h)) | refine Ob.mk ?_ ?_ | refine Chk.mk (by kernel_rfl) ?_ | refine Eq'.mk ?_ | (refine AllN.mk fun i hi => ?_; cbv) | (refine AllC.mk fun c hc hcm => ?_; (try dsimp only at hc); cbv) | (refine AllS.mk fun r hr => ?_; (try simp only [Dat.ok, Dat.dec, Leaf.ok, Leaf.val, Act.eta, Work.eta, Locked.eta, val_sl] at hr); cbv))
      | (have c0 : ws.length ≤ k := by omega
         have e := ex c0
         first | exact e.symm | exact e | fail)
      | fail

end Go.Proofs.Ythbdlihmafcioaa
