/- slices.SortStableFunc of jobs. -/
import Derived.Test.YtcnfdohlgmipoaaStJ4
import Derived.Test.YtcnfdohlgmipoaaStJS
set_option linter.all false
namespace Go.Proofs.Ytcnfdohlgmipoaa
open Go Go.Abs

set_option maxRecDepth 100000 in
set_option maxHeartbeats 4000000 in
theorem symJ_vc (l : List job) (a : Int) (m : Int) (b : Int) (hp : symJ_P l a m b) : FnOk Try.prog 53 [.own 0 fun _ => l.length, .i .i64 fun _ => a, .i .i64 fun _ => m, .i .i64 fun _ => b, .fn 29 []] [vecO 70 fun _ => l] (outLe 1 (.tup []) [vecO 70 fun _ => symJ_F l a m b] []) := by
  exact sym_all _ l a m b hp (Nat.lt_succ_self _)
theorem symJ_ok {A : List AV} {H : Hp} {K : Kont} (h : symJ_K A H K) : FnOk Try.prog 53 A H K := ownCon_ok (fun _ _ h => by cases h) (fun rest d _ hp => by
  have hp : (match (generalizing := false) rest with | [.i .i64 a, .i .i64 m, .i .i64 b, .fn 29 []] => symJ_P d (a ()) (m ()) (b ()) | _ => False) := hp
  split at hp
  · rename_i a m b _ _; exact symJ_vc d (a ()) (m ()) (b ()) hp
  · cases hp) h
theorem symJ_okO : DtOk Try.prog 53 (.o (ownDet job 70 symJ_S)) := ownDet_ok (fun _ _ h => by cases h) (fun rest d _ hp => by
  have hp : (match (generalizing := false) rest with | [.i .i64 a, .i .i64 m, .i .i64 b, .fn 29 []] => symJ_P d (a ()) (m ()) (b ()) | _ => False) := hp
  split at hp
  · rename_i a m b _ _; exact symJ_vc d (a ()) (m ()) (b ()) hp
  · cases hp)
noncomputable def cSt : FuncId → Con := fun f => match f with
  | 52 => insJ_K
  | 53 => symJ_K
  | _ => fun _ _ _ => Bad 1001
theorem cSt_ok : ConOk Try.prog cSt := fun f A H K h => by
  unfold cSt at h
  split at h
  · exact ⟨⟨Try.f52, Try.func52, by kernel_rfl, by kernel_rfl⟩, insJ_ok h⟩
  · exact ⟨⟨Try.f53, Try.func53, by kernel_rfl, by kernel_rfl⟩, symJ_ok h⟩
  · cases h
def stbJ_P (l : List job) (n : Int) : Prop := n = l.length ∧ l.length ≤ 1048576
def stbJ_F (l : List job) (n : Int) : List job := sortS l
def stbJ_S : OwnS job := { pre := fun r l => match r with | [.i .i64 n, .fn 29 []] => stbJ_P l (n ()) | _ => False, fin := fun r l => match r with | [.i .i64 n, .fn 29 []] => stbJ_F l (n ()) | _ => l, res := none, kl := false }
noncomputable def stbJ_K : Con := ownCon job 70 stbJ_S
structure StU (l : List job) where
  d : List job
  a : Nat
  h : UpJ 20 l d a
  hb : a ≤ d.length
structure StW (l : List job) where
  d : List job
  w : Nat
  k : Keep l d
  h : BlkJ w d
  h1 : 1 ≤ w
  h2 : w ≤ 2 * l.length + 20
structure StM (w : Nat) (l : List job) where
  d : List job
  a : Nat
  h : MgJ w l d a
  hb : a ≤ d.length
set_option maxRecDepth 100000 in
set_option maxHeartbeats 4000000 in
theorem stbJ_vc (l : List job) (n : Int) (hp : stbJ_P l n) : FnOk Try.prog 41 [.own 0 fun _ => l.length, .i .i64 fun _ => n, .fn 29 []] [vecO 70 fun _ => l] (outLe 1 (.tup []) [vecO 70 fun _ => stbJ_F l n] []) := by
  refine fn_ok envOk zl cSt_ok noDraws_ok (keep := [0, 1, 2, 6, 7, 8, 9, 13, 30, 35, 54]) Try.func41 rfl ?_
  obtain ⟨rfl, h1⟩ := hp
  cbv
  repeat' first | (show Stp _; exfalso; first | omega | (exact h ‹_›) | (exact absurd ‹_› h) | (exact Bool.false_ne_true (h.symm.trans (show _ = true by assumption)))) | (refine Stp.mk ?_; cbv) | (refine Gen.mk fun r hr => ?_; (try simp only [Dat.ok, Dat.dec, Leaf.ok, Leaf.val, Span.eta, Set.eta, Task.eta, Done.eta, job.eta, Late.eta, val_sl, val_nil] at hr); cbv) | exact trivial | rfl | refine Both.mk ?_ ?_ | (refine Imp.mk fun h => ?_; (try dsimp only at h); (try simp only [nc, Int.toNat_natCast, ne_eq, zz] at h); (try simp only [nc] at h)) | refine Ob.mk ?_ ?_ | refine Chk.mk (by kernel_rfl) ?_ | refine Eq'.mk ?_ | (refine AllN.mk fun i hi => ?_; cbv) | (refine AllC.mk fun c hc hcm => ?_; (try dsimp only at hc); cbv) | (refine AllS.mk fun r hr => ?_; (try simp only [Dat.ok, Dat.dec, Leaf.ok, Leaf.val, Span.eta, Set.eta, Task.eta, Done.eta, job.eta, Late.eta, val_sl] at hr); cbv)
  all_goals ((try dsimp only at *); (try simp only [nc, Int.toNat_natCast, ne_eq, zz] at *); (try simp only [nc] at *))
  all_goals first
    | omega
    | (unfold InR; omega)
    | skip
  refine LoopVC.frame [7, 8, 13] (StU l) (fun x => [(7, .i .i64 fun _ => x.a), (8, .i .i64 fun _ => (x.a : Int) + 20)]) (fun x => [(0, vecO 70 fun _ => x.d)]) [] (fun x => l.length - x.a)
    ⟨l, 0, { hl := rfl, hf := fun _ => rfl, ha := Nat.dvd_zero _, p := fun x _ hx => absurd hx (Nat.not_lt_zero _) }, Nat.zero_le _⟩ rfl (fun _ => rfl) ?_ ?_ fun ⟨d, a, hU, hb⟩ => ?_
  iterate 2
    · cbv
      repeat' first | (refine Stp.mk ?_; cbv) | (refine Gen.mk fun r hr => ?_; (try simp only [Dat.ok, Dat.dec, Leaf.ok, Leaf.val, Span.eta, Set.eta, Task.eta, Done.eta, job.eta, Late.eta, val_sl, val_nil] at hr); cbv) | exact trivial | rfl | refine Both.mk ?_ ?_ | (refine Imp.mk fun h => ?_; (try dsimp only at h); (try simp only [nc, Int.toNat_natCast, ne_eq, zz] at h); (try simp only [nc] at h)) | refine Ob.mk ?_ ?_ | refine Chk.mk (by kernel_rfl) ?_ | refine Eq'.mk ?_ | (refine AllN.mk fun i hi => ?_; cbv) | (refine AllC.mk fun c hc hcm => ?_; (try dsimp only at hc); cbv) | (refine AllS.mk fun r hr => ?_; (try simp only [Dat.ok, Dat.dec, Leaf.ok, Leaf.val, Span.eta, Set.eta, Task.eta, Done.eta, job.eta, Late.eta, val_sl] at hr); cbv)
  have hl := hU.hl
  have hv : slV (.sl 6 (fun _ => l.length) fun i => Dat.enc fun _ => d.getD (i ()) Dat.d0) = d := val_len 6 hl.symm
  cbv
  repeat' first | (show Stp _; exfalso; first | omega | (exact h ‹_›) | (exact absurd ‹_› h) | (exact Bool.false_ne_true (h.symm.trans (show _ = true by assumption)))) | (refine Stp.mk ?_; cbv) | (refine Gen.mk fun r hr => ?_; (try simp only [Dat.ok, Dat.dec, Leaf.ok, Leaf.val, Span.eta, Set.eta, Task.eta, Done.eta, job.eta, Late.eta, val_sl, val_nil] at hr); cbv) | exact trivial | rfl | refine Both.mk ?_ ?_ | (refine Imp.mk fun h => ?_; (try dsimp only at h); (try simp only [nc, Int.toNat_natCast, ne_eq, zz] at h); (try simp only [nc] at h)) | refine Ob.mk ?_ ?_ | refine Chk.mk (by kernel_rfl) ?_ | refine Eq'.mk ?_ | (refine AllN.mk fun i hi => ?_; cbv) | (refine AllC.mk fun c hc hcm => ?_; (try dsimp only at hc); cbv) | (refine AllS.mk fun r hr => ?_; (try simp only [Dat.ok, Dat.dec, Leaf.ok, Leaf.val, Span.eta, Set.eta, Task.eta, Done.eta, job.eta, Late.eta, val_sl] at hr); cbv)
  all_goals ((try dsimp only at *); (try simp only [nc, Int.toNat_natCast, ne_eq, zz] at *); (try simp only [nc] at *))
  all_goals try (
    rename (_ = slV _) => hq
    rw [hv] at hq
    replace hq := hq.symm
    subst hq)
  all_goals first
    | (unfold InR; omega)
    | exact ⟨rfl, hl.symm, fun i _ => Dat.hok _, by rw [hv]; exact ⟨by omega, by omega, by omega, by omega⟩⟩
    | skip
  · have e : insJ_F d (a : Nat) ((a : Int) + 20) = segS d a (a + 20) := by
      unfold insJ_F; rw [Int.toNat_natCast, show ((a : Int) + 20).toNat = a + 20 by omega]
    rw [e]
    refine ⟨⟨segS d a (a + 20), a + 20, hU.step (by omega), by rw [segS_len (by omega) (by omega)]; omega⟩, ?_, ?_, rfl, by (try dsimp only); omega⟩
    iterate 2
      · cbv
        repeat' first | (refine Stp.mk ?_; cbv) | (refine Gen.mk fun r hr => ?_; (try simp only [Dat.ok, Dat.dec, Leaf.ok, Leaf.val, Span.eta, Set.eta, Task.eta, Done.eta, job.eta, Late.eta, val_sl, val_nil] at hr); cbv) | exact trivial | rfl | refine Both.mk ?_ ?_ | (refine Imp.mk fun h => ?_; (try dsimp only at h); (try simp only [nc, Int.toNat_natCast, ne_eq, zz] at h); (try simp only [nc] at h)) | refine Ob.mk ?_ ?_ | refine Chk.mk (by kernel_rfl) ?_ | refine Eq'.mk ?_ | (refine AllN.mk fun i hi => ?_; cbv) | (refine AllC.mk fun c hc hcm => ?_; (try dsimp only at hc); cbv) | (refine AllS.mk fun r hr => ?_; (try simp only [Dat.ok, Dat.dec, Leaf.ok, Leaf.val, Span.eta, Set.eta, Task.eta, Done.eta, job.eta, Late.eta, val_sl] at hr); cbv)
  have e : insJ_F d (a : Nat) (l.length : Nat) = segS d a d.length := by
    unfold insJ_F; rw [Int.toNat_natCast, Int.toNat_natCast, hl]
  rw [e]
  obtain ⟨k0, b0⟩ := hU.last hb (by omega)
  generalize segS d a d.length = d0 at k0 b0
  refine LoopVC.frame [6, 7, 8, 9, 30, 35, 54] (StW l) (fun x => [(6, .i .i64 fun _ => x.w)]) (fun x => [(0, vecO 70 fun _ => x.d)]) [] (fun x => 4 * l.length + 40 - x.w)
    ⟨d0, 20, k0, b0, by omega, by omega⟩ rfl (fun _ => rfl) ?_ ?_ fun ⟨d, w, k, hbk, w1, w2⟩ => ?_
  iterate 2
    · cbv
      repeat' first | (refine Stp.mk ?_; cbv) | (refine Gen.mk fun r hr => ?_; (try simp only [Dat.ok, Dat.dec, Leaf.ok, Leaf.val, Span.eta, Set.eta, Task.eta, Done.eta, job.eta, Late.eta, val_sl, val_nil] at hr); cbv) | exact trivial | rfl | refine Both.mk ?_ ?_ | (refine Imp.mk fun h => ?_; (try dsimp only at h); (try simp only [nc, Int.toNat_natCast, ne_eq, zz] at h); (try simp only [nc] at h)) | refine Ob.mk ?_ ?_ | refine Chk.mk (by kernel_rfl) ?_ | refine Eq'.mk ?_ | (refine AllN.mk fun i hi => ?_; cbv) | (refine AllC.mk fun c hc hcm => ?_; (try dsimp only at hc); cbv) | (refine AllS.mk fun r hr => ?_; (try simp only [Dat.ok, Dat.dec, Leaf.ok, Leaf.val, Span.eta, Set.eta, Task.eta, Done.eta, job.eta, Late.eta, val_sl] at hr); cbv)
  have hl := k.hl
  cbv
  repeat' first | (show Stp _; exfalso; first | omega | (exact h ‹_›) | (exact absurd ‹_› h) | (exact Bool.false_ne_true (h.symm.trans (show _ = true by assumption)))) | (refine Stp.mk ?_; cbv) | (refine Gen.mk fun r hr => ?_; (try simp only [Dat.ok, Dat.dec, Leaf.ok, Leaf.val, Span.eta, Set.eta, Task.eta, Done.eta, job.eta, Late.eta, val_sl, val_nil] at hr); cbv) | exact trivial | rfl | refine Both.mk ?_ ?_ | (refine Imp.mk fun h => ?_; (try dsimp only at h); (try simp only [nc, Int.toNat_natCast, ne_eq, zz] at h); (try simp only [nc] at h)) | refine Ob.mk ?_ ?_ | refine Chk.mk (by kernel_rfl) ?_ | refine Eq'.mk ?_ | (refine AllN.mk fun i hi => ?_; cbv) | (refine AllC.mk fun c hc hcm => ?_; (try dsimp only at hc); cbv) | (refine AllS.mk fun r hr => ?_; (try simp only [Dat.ok, Dat.dec, Leaf.ok, Leaf.val, Span.eta, Set.eta, Task.eta, Done.eta, job.eta, Late.eta, val_sl] at hr); cbv)
  all_goals ((try dsimp only at *); (try simp only [nc, Int.toNat_natCast, ne_eq, zz] at *); (try simp only [nc] at *))
  all_goals first
    | (unfold InR; omega)
    | skip
  · refine LoopVC.frame [7, 8, 35] (StM w l) (fun x => [(7, .i .i64 fun _ => x.a), (8, .i .i64 fun _ => (x.a : Int) + 2 * w)]) (fun x => [(0, vecO 70 fun _ => x.d)]) [] (fun x => l.length - x.a)
      ⟨d, 0, .start k hbk, Nat.zero_le _⟩ rfl (fun _ => rfl) ?_ ?_ fun ⟨d, a, hM, hb⟩ => ?_
    · cbv
      repeat' first | (refine Stp.mk ?_; cbv) | (refine Gen.mk fun r hr => ?_; (try simp only [Dat.ok, Dat.dec, Leaf.ok, Leaf.val, Span.eta, Set.eta, Task.eta, Done.eta, job.eta, Late.eta, val_sl, val_nil] at hr); cbv) | exact trivial | rfl | refine Both.mk ?_ ?_ | (refine Imp.mk fun h => ?_; (try dsimp only at h); (try simp only [nc, Int.toNat_natCast, ne_eq, zz] at h); (try simp only [nc] at h)) | refine Ob.mk ?_ ?_ | refine Chk.mk (by kernel_rfl) ?_ | refine Eq'.mk ?_ | (refine AllN.mk fun i hi => ?_; cbv) | (refine AllC.mk fun c hc hcm => ?_; (try dsimp only at hc); cbv) | (refine AllS.mk fun r hr => ?_; (try simp only [Dat.ok, Dat.dec, Leaf.ok, Leaf.val, Span.eta, Set.eta, Task.eta, Done.eta, job.eta, Late.eta, val_sl] at hr); cbv)
      show 2 * (w : Int) = ((0 : Nat) : Int) + 2 * (w : Int)
      omega
    · cbv
      repeat' first | (refine Stp.mk ?_; cbv) | (refine Gen.mk fun r hr => ?_; (try simp only [Dat.ok, Dat.dec, Leaf.ok, Leaf.val, Span.eta, Set.eta, Task.eta, Done.eta, job.eta, Late.eta, val_sl, val_nil] at hr); cbv) | exact trivial | rfl | refine Both.mk ?_ ?_ | (refine Imp.mk fun h => ?_; (try dsimp only at h); (try simp only [nc, Int.toNat_natCast, ne_eq, zz] at h); (try simp only [nc] at h)) | refine Ob.mk ?_ ?_ | refine Chk.mk (by kernel_rfl) ?_ | refine Eq'.mk ?_ | (refine AllN.mk fun i hi => ?_; cbv) | (refine AllC.mk fun c hc hcm => ?_; (try dsimp only at hc); cbv) | (refine AllS.mk fun r hr => ?_; (try simp only [Dat.ok, Dat.dec, Leaf.ok, Leaf.val, Span.eta, Set.eta, Task.eta, Done.eta, job.eta, Late.eta, val_sl] at hr); cbv)
    have hl := hM.hl
    have hv : slV (.sl 6 (fun _ => l.length) fun i => Dat.enc fun _ => d.getD (i ()) Dat.d0) = d := val_len 6 hl.symm
    have eW : ((a : Int) + (w : Nat)).toNat = a + w := by omega
    have eV : ((a : Int) + 2 * (w : Nat)).toNat = a + 2 * w := by omega
    cbv
    repeat' first | (show Stp _; exfalso; first | omega | (exact h ‹_›) | (exact absurd ‹_› h) | (exact Bool.false_ne_true (h.symm.trans (show _ = true by assumption)))) | (refine Stp.mk ?_; cbv) | (refine Gen.mk fun r hr => ?_; (try simp only [Dat.ok, Dat.dec, Leaf.ok, Leaf.val, Span.eta, Set.eta, Task.eta, Done.eta, job.eta, Late.eta, val_sl, val_nil] at hr); cbv) | exact trivial | rfl | refine Both.mk ?_ ?_ | (refine Imp.mk fun h => ?_; (try dsimp only at h); (try simp only [nc, Int.toNat_natCast, ne_eq, zz] at h); (try simp only [nc] at h)) | refine Ob.mk ?_ ?_ | refine Chk.mk (by kernel_rfl) ?_ | refine Eq'.mk ?_ | (refine AllN.mk fun i hi => ?_; cbv) | (refine AllC.mk fun c hc hcm => ?_; (try dsimp only at hc); cbv) | (refine AllS.mk fun r hr => ?_; (try simp only [Dat.ok, Dat.dec, Leaf.ok, Leaf.val, Span.eta, Set.eta, Task.eta, Done.eta, job.eta, Late.eta, val_sl] at hr); cbv)
    all_goals ((try dsimp only at *); (try simp only [nc, Int.toNat_natCast, ne_eq, zz] at *); (try simp only [nc] at *))
    all_goals try (
      rename (_ = slV _) => hq
      rw [hv] at hq
      replace hq := hq.symm
      subst hq)
    all_goals first
      | (unfold InR; omega)
      | exact ⟨rfl, hl.symm, fun i _ => Dat.hok _, by
          rw [hv]
          exact ⟨by omega, by omega, by omega, by omega, by omega, by rw [eW]; exact hM.sA (by omega), by
            rw [eW, eV]
            have := hM.sB
            rwa [Nat.min_eq_left (by omega)] at this⟩⟩
      | exact ⟨rfl, hl.symm, fun i _ => Dat.hok _, by
          rw [hv]
          exact ⟨by omega, by omega, by omega, by omega, by omega, by rw [eW]; exact hM.sA (by omega), by
            rw [eW, Int.toNat_natCast, ← hl]
            have := hM.sB
            rwa [Nat.min_eq_right (by omega)] at this⟩⟩
      | skip
    · have e : symJ_F d (a : Nat) ((a : Int) + (w : Nat)) ((a : Int) + 2 * (w : Nat)) = segS d a (a + 2 * w) := by
        unfold symJ_F; rw [Int.toNat_natCast, eV]
      rw [e]
      refine ⟨⟨segS d a (a + 2 * w), a + 2 * w, hM.step (by omega), by rw [segS_len (by omega) (by omega)]; omega⟩, ?_, ?_, rfl, by (try dsimp only); omega⟩
      iterate 2
        · cbv
          repeat' first | (refine Stp.mk ?_; cbv) | (refine Gen.mk fun r hr => ?_; (try simp only [Dat.ok, Dat.dec, Leaf.ok, Leaf.val, Span.eta, Set.eta, Task.eta, Done.eta, job.eta, Late.eta, val_sl, val_nil] at hr); cbv) | exact trivial | rfl | refine Both.mk ?_ ?_ | (refine Imp.mk fun h => ?_; (try dsimp only at h); (try simp only [nc, Int.toNat_natCast, ne_eq, zz] at h); (try simp only [nc] at h)) | refine Ob.mk ?_ ?_ | refine Chk.mk (by kernel_rfl) ?_ | refine Eq'.mk ?_ | (refine AllN.mk fun i hi => ?_; cbv) | (refine AllC.mk fun c hc hcm => ?_; (try dsimp only at hc); cbv) | (refine AllS.mk fun r hr => ?_; (try simp only [Dat.ok, Dat.dec, Leaf.ok, Leaf.val, Span.eta, Set.eta, Task.eta, Done.eta, job.eta, Late.eta, val_sl] at hr); cbv)
    · have e : symJ_F d (a : Nat) ((a : Int) + (w : Nat)) (l.length : Nat) = segS d a d.length := by
        unfold symJ_F; rw [Int.toNat_natCast, Int.toNat_natCast, hl]
      rw [e]
      obtain ⟨k1, b1⟩ := hM.toUpJ.last hb (by omega)
      refine ⟨⟨segS d a d.length, 2 * w, k1, b1, by omega, by omega⟩, ?_, ?_, rfl, by (try dsimp only); omega⟩
      · cbv
        repeat' first | (refine Stp.mk ?_; cbv) | (refine Gen.mk fun r hr => ?_; (try simp only [Dat.ok, Dat.dec, Leaf.ok, Leaf.val, Span.eta, Set.eta, Task.eta, Done.eta, job.eta, Late.eta, val_sl, val_nil] at hr); cbv) | exact trivial | rfl | refine Both.mk ?_ ?_ | (refine Imp.mk fun h => ?_; (try dsimp only at h); (try simp only [nc, Int.toNat_natCast, ne_eq, zz] at h); (try simp only [nc] at h)) | refine Ob.mk ?_ ?_ | refine Chk.mk (by kernel_rfl) ?_ | refine Eq'.mk ?_ | (refine AllN.mk fun i hi => ?_; cbv) | (refine AllC.mk fun c hc hcm => ?_; (try dsimp only at hc); cbv) | (refine AllS.mk fun r hr => ?_; (try simp only [Dat.ok, Dat.dec, Leaf.ok, Leaf.val, Span.eta, Set.eta, Task.eta, Done.eta, job.eta, Late.eta, val_sl] at hr); cbv)
        show (w : Int) * 2 = ((2 * w : Nat) : Int)
        omega
      · cbv
        repeat' first | (refine Stp.mk ?_; cbv) | (refine Gen.mk fun r hr => ?_; (try simp only [Dat.ok, Dat.dec, Leaf.ok, Leaf.val, Span.eta, Set.eta, Task.eta, Done.eta, job.eta, Late.eta, val_sl, val_nil] at hr); cbv) | exact trivial | rfl | refine Both.mk ?_ ?_ | (refine Imp.mk fun h => ?_; (try dsimp only at h); (try simp only [nc, Int.toNat_natCast, ne_eq, zz] at h); (try simp only [nc] at h)) | refine Ob.mk ?_ ?_ | refine Chk.mk (by kernel_rfl) ?_ | refine Eq'.mk ?_ | (refine AllN.mk fun i hi => ?_; cbv) | (refine AllC.mk fun c hc hcm => ?_; (try dsimp only at hc); cbv) | (refine AllS.mk fun r hr => ?_; (try simp only [Dat.ok, Dat.dec, Leaf.ok, Leaf.val, Span.eta, Set.eta, Task.eta, Done.eta, job.eta, Late.eta, val_sl] at hr); cbv)
    · obtain ⟨k1, b1⟩ := hM.toUpJ.last hb (by omega)
      rw [hM.none hb (by omega)] at k1 b1
      refine ⟨⟨d, 2 * w, k1, b1, by omega, by omega⟩, ?_, ?_, rfl, by (try dsimp only); omega⟩
      · cbv
        repeat' first | (refine Stp.mk ?_; cbv) | (refine Gen.mk fun r hr => ?_; (try simp only [Dat.ok, Dat.dec, Leaf.ok, Leaf.val, Span.eta, Set.eta, Task.eta, Done.eta, job.eta, Late.eta, val_sl, val_nil] at hr); cbv) | exact trivial | rfl | refine Both.mk ?_ ?_ | (refine Imp.mk fun h => ?_; (try dsimp only at h); (try simp only [nc, Int.toNat_natCast, ne_eq, zz] at h); (try simp only [nc] at h)) | refine Ob.mk ?_ ?_ | refine Chk.mk (by kernel_rfl) ?_ | refine Eq'.mk ?_ | (refine AllN.mk fun i hi => ?_; cbv) | (refine AllC.mk fun c hc hcm => ?_; (try dsimp only at hc); cbv) | (refine AllS.mk fun r hr => ?_; (try simp only [Dat.ok, Dat.dec, Leaf.ok, Leaf.val, Span.eta, Set.eta, Task.eta, Done.eta, job.eta, Late.eta, val_sl] at hr); cbv)
        show (w : Int) * 2 = ((2 * w : Nat) : Int)
        omega
      · cbv
        repeat' first | (refine Stp.mk ?_; cbv) | (refine Gen.mk fun r hr => ?_; (try simp only [Dat.ok, Dat.dec, Leaf.ok, Leaf.val, Span.eta, Set.eta, Task.eta, Done.eta, job.eta, Late.eta, val_sl, val_nil] at hr); cbv) | exact trivial | rfl | refine Both.mk ?_ ?_ | (refine Imp.mk fun h => ?_; (try dsimp only at h); (try simp only [nc, Int.toNat_natCast, ne_eq, zz] at h); (try simp only [nc] at h)) | refine Ob.mk ?_ ?_ | refine Chk.mk (by kernel_rfl) ?_ | refine Eq'.mk ?_ | (refine AllN.mk fun i hi => ?_; cbv) | (refine AllC.mk fun c hc hcm => ?_; (try dsimp only at hc); cbv) | (refine AllS.mk fun r hr => ?_; (try simp only [Dat.ok, Dat.dec, Leaf.ok, Leaf.val, Span.eta, Set.eta, Task.eta, Done.eta, job.eta, Late.eta, val_sl] at hr); cbv)
  all_goals (
    have e : stbJ_F l (l.length : Nat) = d := blk_end k hbk (by omega)
    rw [e])
theorem stbJ_ok {A : List AV} {H : Hp} {K : Kont} (h : stbJ_K A H K) : FnOk Try.prog 41 A H K := ownCon_ok (fun _ _ h => by cases h) (fun rest d _ hp => by
  have hp : (match (generalizing := false) rest with | [.i .i64 n, .fn 29 []] => stbJ_P d (n ()) | _ => False) := hp
  split at hp
  · rename_i n _ _; exact stbJ_vc d (n ()) hp
  · cases hp) h
theorem stbJ_okO : DtOk Try.prog 41 (.o (ownDet job 70 stbJ_S)) := ownDet_ok (fun _ _ h => by cases h) (fun rest d _ hp => by
  have hp : (match (generalizing := false) rest with | [.i .i64 n, .fn 29 []] => stbJ_P d (n ()) | _ => False) := hp
  split at hp
  · rename_i n _ _; exact stbJ_vc d (n ()) hp
  · cases hp)
noncomputable def cSs : FuncId → Con := fun f => match f with
  | 41 => stbJ_K
  | _ => fun _ _ _ => Bad 1001
theorem cSs_ok : ConOk Try.prog cSs := fun f A H K h => by
  unfold cSs at h
  split at h
  · exact ⟨⟨Try.f41, Try.func41, by kernel_rfl, by kernel_rfl⟩, stbJ_ok h⟩
  · cases h
def ssfJ_P (l : List job)  : Prop := l.length ≤ 1048576
def ssfJ_F (l : List job)  : List job := sortS l
def ssfJ_S : OwnS job := { pre := fun r l => match r with | [.fn 29 []] => ssfJ_P l | _ => False, fin := fun r l => match r with | [.fn 29 []] => ssfJ_F l | _ => l, res := none, kl := false }
noncomputable def ssfJ_K : Con := ownCon job 70 ssfJ_S
set_option maxRecDepth 100000 in
set_option maxHeartbeats 4000000 in
theorem ssfJ_vc (l : List job)  (hp : ssfJ_P l) : FnOk Try.prog 28 [.own 0 fun _ => l.length, .fn 29 []] [vecO 70 fun _ => l] (outLe 1 (.tup []) [vecO 70 fun _ => ssfJ_F l] []) := by
  refine fn_ok envOk zl cSs_ok noDraws_ok (keep := [0, 1]) Try.func28 rfl ?_
  have hp : l.length ≤ 1048576 := hp
  cbv
  repeat' first | (show Stp _; exfalso; first | omega | (exact h ‹_›) | (exact absurd ‹_› h) | (exact Bool.false_ne_true (h.symm.trans (show _ = true by assumption)))) | (refine Stp.mk ?_; cbv) | (refine Gen.mk fun r hr => ?_; (try simp only [Dat.ok, Dat.dec, Leaf.ok, Leaf.val, Span.eta, Set.eta, Task.eta, Done.eta, job.eta, Late.eta, val_sl, val_nil] at hr); cbv) | exact trivial | rfl | refine Both.mk ?_ ?_ | (refine Imp.mk fun h => ?_; (try dsimp only at h); (try simp only [nc, Int.toNat_natCast, ne_eq, zz] at h); (try simp only [nc] at h)) | refine Ob.mk ?_ ?_ | refine Chk.mk (by kernel_rfl) ?_ | refine Eq'.mk ?_ | (refine AllN.mk fun i hi => ?_; cbv) | (refine AllC.mk fun c hc hcm => ?_; (try dsimp only at hc); cbv) | (refine AllS.mk fun r hr => ?_; (try simp only [Dat.ok, Dat.dec, Leaf.ok, Leaf.val, Span.eta, Set.eta, Task.eta, Done.eta, job.eta, Late.eta, val_sl] at hr); cbv)
  all_goals ((try dsimp only at *); (try simp only [nc, Int.toNat_natCast, ne_eq, zz] at *); (try simp only [nc] at *))
  all_goals have hv : slV (.sl 6 (fun _ => l.length) fun i => Dat.enc fun _ => l.getD (i ()) Dat.d0) = l := val_sl l 6
  · exact ⟨rfl, trivial, fun i _ => Dat.hok _, by rw [hv]; exact ⟨rfl, hp⟩⟩
  all_goals (
    subst hr
    rfl)
theorem ssfJ_ok {A : List AV} {H : Hp} {K : Kont} (h : ssfJ_K A H K) : FnOk Try.prog 28 A H K := ownCon_ok (fun _ _ h => by cases h) (fun rest d _ hp => by
  have hp : (match (generalizing := false) rest with | [.fn 29 []] => ssfJ_P d | _ => False) := hp
  split at hp
  · exact ssfJ_vc d hp
  · cases hp) h
theorem ssfJ_okO : DtOk Try.prog 28 (.o (ownDet job 70 ssfJ_S)) := ownDet_ok (fun _ _ h => by cases h) (fun rest d _ hp => by
  have hp : (match (generalizing := false) rest with | [.fn 29 []] => ssfJ_P d | _ => False) := hp
  split at hp
  · exact ssfJ_vc d hp
  · cases hp)

end Go.Proofs.Ytcnfdohlgmipoaa
