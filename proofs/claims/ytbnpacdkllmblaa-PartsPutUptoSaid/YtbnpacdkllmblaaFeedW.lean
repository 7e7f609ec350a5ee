/- parts.Feeds: walked. -/
import Derived.Test.YtbnpacdkllmblaaFeedP
import Derived.Test.YtbnpacdkllmblaaAbsG4
set_option linter.all false
namespace Go.Proofs.Ytbnpacdkllmblaa
open Go Go.Abs

noncomputable def cFd : FuncId → Con := fun f => match f with
  | 12 => pureCon (detPC mchkC_D)
  | 37 => pureCon (detPC pinC_D)
  | _ => fun _ _ _ => Bad 1001
theorem cFd_ok : ConOk Try.prog cFd := fun f A H K h => by
  unfold cFd at h
  split at h
  · exact ⟨⟨Try.f12, Try.func12, by kernel_rfl, by kernel_rfl⟩, pureCon_ok mchkC_ok h⟩
  · exact ⟨⟨Try.f37, Try.func37, by kernel_rfl, by kernel_rfl⟩, pureCon_ok pinC_ok h⟩
  · cases h
structure FsX (m : Module) (i : Int) where
  out : List Bool
  f : Nat
  hl : out.length = m.parts.length
  hc : cntF out ≤ f
  he : feedN m.wires m.parts.length (feed0 m.parts.length i) = feedN m.wires f out
  hm : mchkV m = 0
  hb : partB m i = true
structure FlX (m : Module) (out : List Bool) where
  k : Nat
  hk : k ≤ m.wires.length
  he : hitW out m.wires = hitW out (m.wires.drop k)
theorem getD_setT {l : List Bool} {k j : Nat} (hj : j < l.length) : (l.set k true).getD j Dat.d0 = bif decide (j = k) then true else l.getD j Dat.d0 := by
  rw [List.getD_eq_getElem?_getD, List.getElem?_set]
  by_cases e : j = k
  · subst e; simp [hj]
  · rw [if_neg (fun z => e z.symm), ← List.getD_eq_getElem?_getD, decide_eq_false e]; rfl
theorem feed0_getD {n j : Nat} {i : Int} (hj : j < n) : (feed0 n i).getD j Dat.d0 = bif decide (j = i.toNat) then true else false := by
  rw [feed0, getD_setT (by simpa using hj)]
  simp [List.getD_eq_getElem?_getD, hj]
theorem feed0_len {n : Nat} {i : Int} : (feed0 n i).length = n := (List.length_set ..).trans (List.length_replicate ..)
theorem wire_in {m : Module} (h : mchkV m = 0) {k : Nat} (hk : k < m.wires.length) : (0 ≤ (m.wires.getD k Dat.d0).to ∧ (m.wires.getD k Dat.d0).to < m.parts.length) ∧ 0 ≤ (m.wires.getD k Dat.d0).frm ∧ (m.wires.getD k Dat.d0).frm < m.parts.length := by
  have M := mchk_iff.1 h
  have q := of_decide_eq_true (M.w _ (show m.wires.getD k Dat.d0 ∈ m.wires by rw [List.getD_eq_getElem?_getD, List.getElem?_eq_getElem hk]; exact List.getElem_mem hk))
  omega
def vecB (d : Th (List Bool)) : AObj := .vec 4 1 (fun _ => (d ()).length) fun i => Dat.enc fun _ => (d ()).getD (i ()) Dat.d0
set_option maxRecDepth 100000 in
set_option maxHeartbeats 4000000 in
theorem feedo_vc (m : Module) (i : Int) (hp : mchkC_P m) (R : List Bool × Int) (hR : feedsV m i = R) :
    FnOk Try.prog 20 [.agg (Dat.enc fun _ => m), .i .i64 fun _ => i] [] (outA (.tup [.own 0 fun _ => R.1.length, .i .i64 fun _ => R.2]) [vecB fun _ => R.1]) := by
  have fin0 : ∀ e H kl, R = ([], e) → outA (.tup [.own 0 fun _ => R.1.length, .i .i64 fun _ => R.2]) [vecB fun _ => R.1] (.tup [.nil, .i .i64 fun _ => e]) H kl := fun e H kl h => by
    subst h
    cbv
    repeat' first | (refine Stp.mk ?_; cbv) | (refine Gen.mk fun r hr => ?_; (try simp only [Dat.ok, Dat.dec, Leaf.ok, Leaf.val, Z0, Z1, Z2, Z3, Z4, Z5, Z6, Z7, val_sl, val_nil] at hr); cbv) | exact trivial | rfl | refine Both.mk ?_ ?_ | (refine Imp.mk fun h => ?_; (try dsimp only at h); (try simp only [nc, Int.toNat_natCast, ne_eq, zz] at h); (try simp only [nc] at h)) | refine Ob.mk ?_ ?_ | refine Chk.mk (by kernel_rfl) ?_ | refine Eq'.mk ?_ | (refine AllN.mk fun i hi => ?_; cbv) | (refine AllC.mk fun c hc hcm => ?_; (try dsimp only at hc); cbv) | (refine AllS.mk fun r hr => ?_; (try simp only [Dat.ok, Dat.dec, Leaf.ok, Leaf.val, Z0, Z1, Z2, Z3, Z4, Z5, Z6, Z7, val_sl] at hr); cbv)
    all_goals first | exact absurd hi (Nat.not_lt_zero _) | fail
  have fin1 : ∀ out a0 kl H, R = (out, 0) → outA (.tup [.own 0 fun _ => R.1.length, .i .i64 fun _ => R.2]) [vecB fun _ => R.1] (.tup [.own 1 fun _ => out.length, .i .i64 fun _ => 0]) (a0 :: vecB (fun _ => out) :: H) kl := fun out a0 kl H h => by
    subst h
    cbv
    repeat' first | (refine Stp.mk ?_; cbv) | (refine Gen.mk fun r hr => ?_; (try simp only [Dat.ok, Dat.dec, Leaf.ok, Leaf.val, Z0, Z1, Z2, Z3, Z4, Z5, Z6, Z7, val_sl, val_nil] at hr); cbv) | exact trivial | rfl | refine Both.mk ?_ ?_ | (refine Imp.mk fun h => ?_; (try dsimp only at h); (try simp only [nc, Int.toNat_natCast, ne_eq, zz] at h); (try simp only [nc] at h)) | refine Ob.mk ?_ ?_ | refine Chk.mk (by kernel_rfl) ?_ | refine Eq'.mk ?_ | (refine AllN.mk fun i hi => ?_; cbv) | (refine AllC.mk fun c hc hcm => ?_; (try dsimp only at hc); cbv) | (refine AllS.mk fun r hr => ?_; (try simp only [Dat.ok, Dat.dec, Leaf.ok, Leaf.val, Z0, Z1, Z2, Z3, Z4, Z5, Z6, Z7, val_sl] at hr); cbv)
    all_goals fail
  have eR : mchkV m = 0 → partB m i = true → R = (feedN m.wires m.parts.length (feed0 m.parts.length i), 0) := fun a b => by
    rw [← hR, feedsV, if_neg (fun q => q a), if_neg (by rw [b]; decide)]
  generalize outA (.tup [.own 0 fun _ => R.1.length, .i .i64 fun _ => R.2]) [vecB fun _ => R.1] = K at fin0 fin1 ⊢
  refine fn_oks envOk zl cFd_ok noDraws_ok (keep := [0, 1, 2, 4, 5, 6, 7, 9, 13, 18, 27, 28, 29, 30, 45]) Try.func20 rfl rfl ?_
  cbv
  refine ScopeVC.mk 0 _ rfl (FsX m i) (fun x => [(1, .i .i64 fun _ => i), (2, .ptr 0 0), (7, .own 1 fun _ => x.out.length)]) (fun x => [.blk [.i .i64 fun _ => m.table.frame, .sl 3 (fun _ => m.table.windows.length) fun i => Dat.enc fun _ => m.table.windows.getD (i ()) Dat.d0, .sl 6 (fun _ => m.parts.length) fun i => Dat.enc fun _ => m.parts.getD (i ()) Dat.d0, .sl 3 (fun _ => m.wires.length) fun i => Dat.enc fun _ => m.wires.getD (i ()) Dat.d0, .i .i64 fun _ => m.now, .i .i64 fun _ => m.lost], vecB fun _ => x.out]) [] (fun x => x.f) (fun _ => rfl) ?_ fun ⟨out, f, hl, hc, he, hm, hb⟩ => ?_
  · cbv
    repeat' first | (show Stp _; exfalso; first | omega | (exact h ‹_›) | (exact absurd ‹_› h) | (exact Bool.false_ne_true (h.symm.trans (show _ = true by assumption)))) | (refine Stp.mk ?_; cbv) | (refine Gen.mk fun r hr => ?_; (try simp only [Dat.ok, Dat.dec, Leaf.ok, Leaf.val, Z0, Z1, Z2, Z3, Z4, Z5, Z6, Z7, val_sl, val_nil] at hr); cbv) | exact trivial | rfl | refine Both.mk ?_ ?_ | (refine Imp.mk fun h => ?_; (try dsimp only at h); (try simp only [nc, Int.toNat_natCast, ne_eq, zz] at h); (try simp only [nc] at h)) | refine Ob.mk ?_ ?_ | refine Chk.mk (by kernel_rfl) ?_ | refine Eq'.mk ?_ | (refine AllN.mk fun i hi => ?_; cbv) | (refine AllC.mk fun c hc hcm => ?_; (try dsimp only at hc); cbv) | (refine AllS.mk fun r hr => ?_; (try simp only [Dat.ok, Dat.dec, Leaf.ok, Leaf.val, Z0, Z1, Z2, Z3, Z4, Z5, Z6, Z7, val_sl] at hr); cbv)
    all_goals ((try dsimp only at *); (try simp only [nc, Int.toNat_natCast, ne_eq, zz] at *); (try simp only [nc] at *))
    all_goals try simp only [Dat.dec, Leaf.val, Z0, Z1, Z2, Z3, Z4, Z5, Z6, Z7, val_sl] at *
    all_goals try first
      | exact ⟨⟨trivial, ⟨rfl, fun i _ => Dat.hok _⟩, ⟨rfl, fun i _ => Dat.hok _⟩, ⟨rfl, fun i _ => Dat.hok _⟩, trivial, trivial⟩, hp⟩
      | exact ⟨⟨trivial, ⟨rfl, fun i _ => Dat.hok _⟩, ⟨rfl, fun i _ => Dat.hok _⟩, ⟨rfl, fun i _ => Dat.hok _⟩, trivial, trivial⟩, hp.2.1⟩
      | (refine fin0 _ _ _ ?_
         rw [← hR, feedsV, if_pos (by assumption)]
         done)
      | (refine fin0 _ _ _ ?_
         rw [← hR, feedsV, if_neg (fun q => q (by assumption)), if_pos (by assumption)]
         done)
    all_goals try (
      have c0 := of_decide_eq_true (show partB m i = true by assumption)
      have c1 := (mchk_iff.1 (show mchkV m = 0 by assumption)).lp
      first
        | omega
        | exact ⟨by omega, by omega⟩
        | exact ⟨by omega, by omega, by omega, by omega⟩)
    have hm : mchkV m = 0 := by assumption
    have hb : partB m i = true := by assumption
    refine LoopVC.frame (7 :: [9, 29, 30, 45]) (FlX m (feed0 m.parts.length i)) (fun x => [(7, .own 1 fun _ => (feed0 m.parts.length i).length), (29, .i .i64 fun _ => x.k)]) (fun _ => [(1, vecB fun _ => feed0 m.parts.length i)]) [] (fun x => m.wires.length - x.k) ⟨0, Nat.zero_le _, by rw [List.drop_zero]⟩ rfl (fun _ => rfl) ?_ ?_ fun ⟨k, hk, hh⟩ => ?_
    · cbv
      repeat' first | (refine Stp.mk ?_; cbv) | (refine Gen.mk fun r hr => ?_; (try simp only [Dat.ok, Dat.dec, Leaf.ok, Leaf.val, Z0, Z1, Z2, Z3, Z4, Z5, Z6, Z7, val_sl, val_nil] at hr); cbv) | exact trivial | rfl | refine Both.mk ?_ ?_ | (refine Imp.mk fun h => ?_; (try dsimp only at h); (try simp only [nc, Int.toNat_natCast, ne_eq, zz] at h); (try simp only [nc] at h)) | refine Ob.mk ?_ ?_ | refine Chk.mk (by kernel_rfl) ?_ | refine Eq'.mk ?_ | (refine AllN.mk fun i hi => ?_; cbv) | (refine AllC.mk fun c hc hcm => ?_; (try dsimp only at hc); cbv) | (refine AllS.mk fun r hr => ?_; (try simp only [Dat.ok, Dat.dec, Leaf.ok, Leaf.val, Z0, Z1, Z2, Z3, Z4, Z5, Z6, Z7, val_sl] at hr); cbv)
      all_goals first
        | exact feed0_len.symm
        | exact (feed0_getD (by assumption)).symm
        | fail
    · cbv
      repeat' first | (refine Stp.mk ?_; cbv) | (refine Gen.mk fun r hr => ?_; (try simp only [Dat.ok, Dat.dec, Leaf.ok, Leaf.val, Z0, Z1, Z2, Z3, Z4, Z5, Z6, Z7, val_sl, val_nil] at hr); cbv) | exact trivial | rfl | refine Both.mk ?_ ?_ | (refine Imp.mk fun h => ?_; (try dsimp only at h); (try simp only [nc, Int.toNat_natCast, ne_eq, zz] at h); (try simp only [nc] at h)) | refine Ob.mk ?_ ?_ | refine Chk.mk (by kernel_rfl) ?_ | refine Eq'.mk ?_ | (refine AllN.mk fun i hi => ?_; cbv) | (refine AllC.mk fun c hc hcm => ?_; (try dsimp only at hc); cbv) | (refine AllS.mk fun r hr => ?_; (try simp only [Dat.ok, Dat.dec, Leaf.ok, Leaf.val, Z0, Z1, Z2, Z3, Z4, Z5, Z6, Z7, val_sl] at hr); cbv)
      all_goals first
        | exact feed0_len.symm
        | exact (feed0_getD (by assumption)).symm
        | fail
    cbv
    repeat' first | (show Stp _; exfalso; first | omega | (exact h ‹_›) | (exact absurd ‹_› h) | (exact Bool.false_ne_true (h.symm.trans (show _ = true by assumption)))) | (refine Stp.mk ?_; cbv) | (refine Gen.mk fun r hr => ?_; (try simp only [Dat.ok, Dat.dec, Leaf.ok, Leaf.val, Z0, Z1, Z2, Z3, Z4, Z5, Z6, Z7, val_sl, val_nil] at hr); cbv) | exact trivial | rfl | refine Both.mk ?_ ?_ | (refine Imp.mk fun h => ?_; (try dsimp only at h); (try simp only [nc, Int.toNat_natCast, ne_eq, zz] at h); (try simp only [nc] at h)) | refine Ob.mk ?_ ?_ | refine Chk.mk (by kernel_rfl) ?_ | refine Eq'.mk ?_ | (refine AllN.mk fun i hi => ?_; cbv) | (refine AllC.mk fun c hc hcm => ?_; (try dsimp only at hc); cbv) | (refine AllS.mk fun r hr => ?_; (try simp only [Dat.ok, Dat.dec, Leaf.ok, Leaf.val, Z0, Z1, Z2, Z3, Z4, Z5, Z6, Z7, val_sl] at hr); cbv)
    all_goals ((try dsimp only at *); (try simp only [nc, Int.toNat_natCast, ne_eq, zz] at *); (try simp only [nc] at *))
    all_goals try rw [nc] at *
    all_goals try simp only [Dat.dec, Leaf.val, Z0, Z1, Z2, Z3, Z4, Z5, Z6, Z7, val_sl] at *
    all_goals try (
      have wk := wire_in hm (show k < m.wires.length by omega)
      first
        | (have M := (mchk_iff.1 hm).lw
           unfold InR; omega)
        | exact ⟨by omega, by omega⟩
        | (rw [feed0_len]; exact ⟨by omega, by omega⟩)
        | (rw [feed0_len]; omega)
        | (have c0 : k < m.wires.length := by omega
           refine ⟨⟨k + 1, by omega, by rw [hh, hit_drop c0, if_neg (fun q => by first | exact Bool.noConfusion (q.1.symm.trans (by assumption) : true = false) | exact Bool.noConfusion (q.2.symm.trans (by assumption) : false = true))]⟩, ?_, ?_, rfl, by (try dsimp only); omega⟩
           · cbv
             repeat' first | (refine Stp.mk ?_; cbv) | (refine Gen.mk fun r hr => ?_; (try simp only [Dat.ok, Dat.dec, Leaf.ok, Leaf.val, Z0, Z1, Z2, Z3, Z4, Z5, Z6, Z7, val_sl, val_nil] at hr); cbv) | exact trivial | rfl | refine Both.mk ?_ ?_ | (refine Imp.mk fun h => ?_; (try dsimp only at h); (try simp only [nc, Int.toNat_natCast, ne_eq, zz] at h); (try simp only [nc] at h)) | refine Ob.mk ?_ ?_ | refine Chk.mk (by kernel_rfl) ?_ | refine Eq'.mk ?_ | (refine AllN.mk fun i hi => ?_; cbv) | (refine AllC.mk fun c hc hcm => ?_; (try dsimp only at hc); cbv) | (refine AllS.mk fun r hr => ?_; (try simp only [Dat.ok, Dat.dec, Leaf.ok, Leaf.val, Z0, Z1, Z2, Z3, Z4, Z5, Z6, Z7, val_sl] at hr); cbv)
           · cbv
             repeat' first | (refine Stp.mk ?_; cbv) | (refine Gen.mk fun r hr => ?_; (try simp only [Dat.ok, Dat.dec, Leaf.ok, Leaf.val, Z0, Z1, Z2, Z3, Z4, Z5, Z6, Z7, val_sl, val_nil] at hr); cbv) | exact trivial | rfl | refine Both.mk ?_ ?_ | (refine Imp.mk fun h => ?_; (try dsimp only at h); (try simp only [nc, Int.toNat_natCast, ne_eq, zz] at h); (try simp only [nc] at h)) | refine Ob.mk ?_ ?_ | refine Chk.mk (by kernel_rfl) ?_ | refine Eq'.mk ?_ | (refine AllN.mk fun i hi => ?_; cbv) | (refine AllC.mk fun c hc hcm => ?_; (try dsimp only at hc); cbv) | (refine AllS.mk fun r hr => ?_; (try simp only [Dat.ok, Dat.dec, Leaf.ok, Leaf.val, Z0, Z1, Z2, Z3, Z4, Z5, Z6, Z7, val_sl] at hr); cbv)))
    all_goals try (
      have wk := wire_in hm (show k < m.wires.length by omega)
      have hit : hitW (feed0 m.parts.length i) m.wires = some (m.wires.getD k Dat.d0).frm.toNat := by rw [hh, hit_drop (by omega), if_pos ⟨by assumption, by assumption⟩]
      obtain ⟨f1, f2, f3⟩ := feed_hit hit (fun w hw => by
        have M := of_decide_eq_true ((mchk_iff.1 hm).w w hw)
        rw [feed0_len]
        omega) (Nat.le_trans (cntF_le _) (Nat.le_of_eq feed0_len))
      refine ⟨⟨(feed0 m.parts.length i).set (m.wires.getD k Dat.d0).frm.toNat true, m.parts.length - 1, (List.length_set ..).trans feed0_len, f3, f2, hm, hb⟩, ?_, ?_, rfl⟩
      · cbv
        repeat' first | (refine Stp.mk ?_; cbv) | (refine Gen.mk fun r hr => ?_; (try simp only [Dat.ok, Dat.dec, Leaf.ok, Leaf.val, Z0, Z1, Z2, Z3, Z4, Z5, Z6, Z7, val_sl, val_nil] at hr); cbv) | exact trivial | rfl | refine Both.mk ?_ ?_ | (refine Imp.mk fun h => ?_; (try dsimp only at h); (try simp only [nc, Int.toNat_natCast, ne_eq, zz] at h); (try simp only [nc] at h)) | refine Ob.mk ?_ ?_ | refine Chk.mk (by kernel_rfl) ?_ | refine Eq'.mk ?_ | (refine AllN.mk fun i hi => ?_; cbv) | (refine AllC.mk fun c hc hcm => ?_; (try dsimp only at hc); cbv) | (refine AllS.mk fun r hr => ?_; (try simp only [Dat.ok, Dat.dec, Leaf.ok, Leaf.val, Z0, Z1, Z2, Z3, Z4, Z5, Z6, Z7, val_sl] at hr); cbv)
        all_goals exact (List.length_set ..).symm
      · cbv
        repeat' first | (refine Stp.mk ?_; cbv) | (refine Gen.mk fun r hr => ?_; (try simp only [Dat.ok, Dat.dec, Leaf.ok, Leaf.val, Z0, Z1, Z2, Z3, Z4, Z5, Z6, Z7, val_sl, val_nil] at hr); cbv) | exact trivial | rfl | refine Both.mk ?_ ?_ | (refine Imp.mk fun h => ?_; (try dsimp only at h); (try simp only [nc, Int.toNat_natCast, ne_eq, zz] at h); (try simp only [nc] at h)) | refine Ob.mk ?_ ?_ | refine Chk.mk (by kernel_rfl) ?_ | refine Eq'.mk ?_ | (refine AllN.mk fun i hi => ?_; cbv) | (refine AllC.mk fun c hc hcm => ?_; (try dsimp only at hc); cbv) | (refine AllS.mk fun r hr => ?_; (try simp only [Dat.ok, Dat.dec, Leaf.ok, Leaf.val, Z0, Z1, Z2, Z3, Z4, Z5, Z6, Z7, val_sl] at hr); cbv)
        all_goals first
          | exact (List.length_set ..).symm
          | exact (getD_setT (by assumption)).symm
          | fail)
    all_goals try (
      have c0 : m.wires.length ≤ k := by omega
      refine fin1 _ _ _ _ ?_
      rw [eR hm hb, feed_end (by rw [hh, List.drop_eq_nil_of_le c0]; rfl)]
      done)
    all_goals fail
  · cbv
    repeat' first | (show Stp _; exfalso; first | omega | (exact h ‹_›) | (exact absurd ‹_› h) | (exact Bool.false_ne_true (h.symm.trans (show _ = true by assumption)))) | (refine Stp.mk ?_; cbv) | (refine Gen.mk fun r hr => ?_; (try simp only [Dat.ok, Dat.dec, Leaf.ok, Leaf.val, Z0, Z1, Z2, Z3, Z4, Z5, Z6, Z7, val_sl, val_nil] at hr); cbv) | exact trivial | rfl | refine Both.mk ?_ ?_ | (refine Imp.mk fun h => ?_; (try dsimp only at h); (try simp only [nc, Int.toNat_natCast, ne_eq, zz] at h); (try simp only [nc] at h)) | refine Ob.mk ?_ ?_ | refine Chk.mk (by kernel_rfl) ?_ | refine Eq'.mk ?_ | (refine AllN.mk fun i hi => ?_; cbv) | (refine AllC.mk fun c hc hcm => ?_; (try dsimp only at hc); cbv) | (refine AllS.mk fun r hr => ?_; (try simp only [Dat.ok, Dat.dec, Leaf.ok, Leaf.val, Z0, Z1, Z2, Z3, Z4, Z5, Z6, Z7, val_sl] at hr); cbv)
    all_goals ((try dsimp only at *); (try simp only [nc, Int.toNat_natCast, ne_eq, zz] at *); (try simp only [nc] at *))
    refine LoopVC.frame [9, 29, 30, 45] (FlX m out) (fun x => [(29, .i .i64 fun _ => x.k)]) (fun _ => []) [] (fun x => m.wires.length - x.k) ⟨0, Nat.zero_le _, by rw [List.drop_zero]⟩ rfl (fun _ => rfl) ?_ ?_ fun ⟨k, hk, hh⟩ => ?_
    · cbv
      repeat' first | (refine Stp.mk ?_; cbv) | (refine Gen.mk fun r hr => ?_; (try simp only [Dat.ok, Dat.dec, Leaf.ok, Leaf.val, Z0, Z1, Z2, Z3, Z4, Z5, Z6, Z7, val_sl, val_nil] at hr); cbv) | exact trivial | rfl | refine Both.mk ?_ ?_ | (refine Imp.mk fun h => ?_; (try dsimp only at h); (try simp only [nc, Int.toNat_natCast, ne_eq, zz] at h); (try simp only [nc] at h)) | refine Ob.mk ?_ ?_ | refine Chk.mk (by kernel_rfl) ?_ | refine Eq'.mk ?_ | (refine AllN.mk fun i hi => ?_; cbv) | (refine AllC.mk fun c hc hcm => ?_; (try dsimp only at hc); cbv) | (refine AllS.mk fun r hr => ?_; (try simp only [Dat.ok, Dat.dec, Leaf.ok, Leaf.val, Z0, Z1, Z2, Z3, Z4, Z5, Z6, Z7, val_sl] at hr); cbv)
      all_goals fail
    · cbv
      repeat' first | (refine Stp.mk ?_; cbv) | (refine Gen.mk fun r hr => ?_; (try simp only [Dat.ok, Dat.dec, Leaf.ok, Leaf.val, Z0, Z1, Z2, Z3, Z4, Z5, Z6, Z7, val_sl, val_nil] at hr); cbv) | exact trivial | rfl | refine Both.mk ?_ ?_ | (refine Imp.mk fun h => ?_; (try dsimp only at h); (try simp only [nc, Int.toNat_natCast, ne_eq, zz] at h); (try simp only [nc] at h)) | refine Ob.mk ?_ ?_ | refine Chk.mk (by kernel_rfl) ?_ | refine Eq'.mk ?_ | (refine AllN.mk fun i hi => ?_; cbv) | (refine AllC.mk fun c hc hcm => ?_; (try dsimp only at hc); cbv) | (refine AllS.mk fun r hr => ?_; (try simp only [Dat.ok, Dat.dec, Leaf.ok, Leaf.val, Z0, Z1, Z2, Z3, Z4, Z5, Z6, Z7, val_sl] at hr); cbv)
      all_goals fail
    cbv
    repeat' first | (show Stp _; exfalso; first | omega | (exact h ‹_›) | (exact absurd ‹_› h) | (exact Bool.false_ne_true (h.symm.trans (show _ = true by assumption)))) | (refine Stp.mk ?_; cbv) | (refine Gen.mk fun r hr => ?_; (try simp only [Dat.ok, Dat.dec, Leaf.ok, Leaf.val, Z0, Z1, Z2, Z3, Z4, Z5, Z6, Z7, val_sl, val_nil] at hr); cbv) | exact trivial | rfl | refine Both.mk ?_ ?_ | (refine Imp.mk fun h => ?_; (try dsimp only at h); (try simp only [nc, Int.toNat_natCast, ne_eq, zz] at h); (try simp only [nc] at h)) | refine Ob.mk ?_ ?_ | refine Chk.mk (by kernel_rfl) ?_ | refine Eq'.mk ?_ | (refine AllN.mk fun i hi => ?_; cbv) | (refine AllC.mk fun c hc hcm => ?_; (try dsimp only at hc); cbv) | (refine AllS.mk fun r hr => ?_; (try simp only [Dat.ok, Dat.dec, Leaf.ok, Leaf.val, Z0, Z1, Z2, Z3, Z4, Z5, Z6, Z7, val_sl] at hr); cbv)
    all_goals ((try dsimp only at *); (try simp only [nc, Int.toNat_natCast, ne_eq, zz] at *); (try simp only [nc] at *))
    all_goals try rw [nc] at *
    all_goals try simp only [Dat.dec, Leaf.val, Z0, Z1, Z2, Z3, Z4, Z5, Z6, Z7, val_sl] at *
    all_goals try (
      have wk := wire_in hm (show k < m.wires.length by omega)
      first
        | (have M := (mchk_iff.1 hm).lw
           unfold InR; omega)
        | exact ⟨by omega, by omega⟩
        | (rw [hl]; exact ⟨by omega, by omega⟩)
        | (rw [hl]; omega)
        | (have c0 : k < m.wires.length := by omega
           refine ⟨⟨k + 1, by omega, by rw [hh, hit_drop c0, if_neg (fun q => by first | exact Bool.noConfusion (q.1.symm.trans (by assumption) : true = false) | exact Bool.noConfusion (q.2.symm.trans (by assumption) : false = true))]⟩, ?_, ?_, rfl, by (try dsimp only); omega⟩
           · cbv
             repeat' first | (refine Stp.mk ?_; cbv) | (refine Gen.mk fun r hr => ?_; (try simp only [Dat.ok, Dat.dec, Leaf.ok, Leaf.val, Z0, Z1, Z2, Z3, Z4, Z5, Z6, Z7, val_sl, val_nil] at hr); cbv) | exact trivial | rfl | refine Both.mk ?_ ?_ | (refine Imp.mk fun h => ?_; (try dsimp only at h); (try simp only [nc, Int.toNat_natCast, ne_eq, zz] at h); (try simp only [nc] at h)) | refine Ob.mk ?_ ?_ | refine Chk.mk (by kernel_rfl) ?_ | refine Eq'.mk ?_ | (refine AllN.mk fun i hi => ?_; cbv) | (refine AllC.mk fun c hc hcm => ?_; (try dsimp only at hc); cbv) | (refine AllS.mk fun r hr => ?_; (try simp only [Dat.ok, Dat.dec, Leaf.ok, Leaf.val, Z0, Z1, Z2, Z3, Z4, Z5, Z6, Z7, val_sl] at hr); cbv)
           · cbv
             repeat' first | (refine Stp.mk ?_; cbv) | (refine Gen.mk fun r hr => ?_; (try simp only [Dat.ok, Dat.dec, Leaf.ok, Leaf.val, Z0, Z1, Z2, Z3, Z4, Z5, Z6, Z7, val_sl, val_nil] at hr); cbv) | exact trivial | rfl | refine Both.mk ?_ ?_ | (refine Imp.mk fun h => ?_; (try dsimp only at h); (try simp only [nc, Int.toNat_natCast, ne_eq, zz] at h); (try simp only [nc] at h)) | refine Ob.mk ?_ ?_ | refine Chk.mk (by kernel_rfl) ?_ | refine Eq'.mk ?_ | (refine AllN.mk fun i hi => ?_; cbv) | (refine AllC.mk fun c hc hcm => ?_; (try dsimp only at hc); cbv) | (refine AllS.mk fun r hr => ?_; (try simp only [Dat.ok, Dat.dec, Leaf.ok, Leaf.val, Z0, Z1, Z2, Z3, Z4, Z5, Z6, Z7, val_sl] at hr); cbv)))
    all_goals try (
      have wk := wire_in hm (show k < m.wires.length by omega)
      have hit : hitW out m.wires = some (m.wires.getD k Dat.d0).frm.toNat := by rw [hh, hit_drop (by omega), if_pos ⟨by assumption, by assumption⟩]
      obtain ⟨f1, f2, f3⟩ := feed_hit hit (fun w hw => by
        have M := of_decide_eq_true ((mchk_iff.1 hm).w w hw)
        rw [hl]
        omega) hc
      refine ⟨⟨out.set (m.wires.getD k Dat.d0).frm.toNat true, f - 1, (List.length_set ..).trans hl, f3, he.trans f2, hm, hb⟩, ?_, ?_, rfl, by (try dsimp only); omega⟩
      · cbv
        repeat' first | (refine Stp.mk ?_; cbv) | (refine Gen.mk fun r hr => ?_; (try simp only [Dat.ok, Dat.dec, Leaf.ok, Leaf.val, Z0, Z1, Z2, Z3, Z4, Z5, Z6, Z7, val_sl, val_nil] at hr); cbv) | exact trivial | rfl | refine Both.mk ?_ ?_ | (refine Imp.mk fun h => ?_; (try dsimp only at h); (try simp only [nc, Int.toNat_natCast, ne_eq, zz] at h); (try simp only [nc] at h)) | refine Ob.mk ?_ ?_ | refine Chk.mk (by kernel_rfl) ?_ | refine Eq'.mk ?_ | (refine AllN.mk fun i hi => ?_; cbv) | (refine AllC.mk fun c hc hcm => ?_; (try dsimp only at hc); cbv) | (refine AllS.mk fun r hr => ?_; (try simp only [Dat.ok, Dat.dec, Leaf.ok, Leaf.val, Z0, Z1, Z2, Z3, Z4, Z5, Z6, Z7, val_sl] at hr); cbv)
        all_goals exact (List.length_set ..).symm
      · cbv
        repeat' first | (refine Stp.mk ?_; cbv) | (refine Gen.mk fun r hr => ?_; (try simp only [Dat.ok, Dat.dec, Leaf.ok, Leaf.val, Z0, Z1, Z2, Z3, Z4, Z5, Z6, Z7, val_sl, val_nil] at hr); cbv) | exact trivial | rfl | refine Both.mk ?_ ?_ | (refine Imp.mk fun h => ?_; (try dsimp only at h); (try simp only [nc, Int.toNat_natCast, ne_eq, zz] at h); (try simp only [nc] at h)) | refine Ob.mk ?_ ?_ | refine Chk.mk (by kernel_rfl) ?_ | refine Eq'.mk ?_ | (refine AllN.mk fun i hi => ?_; cbv) | (refine AllC.mk fun c hc hcm => ?_; (try dsimp only at hc); cbv) | (refine AllS.mk fun r hr => ?_; (try simp only [Dat.ok, Dat.dec, Leaf.ok, Leaf.val, Z0, Z1, Z2, Z3, Z4, Z5, Z6, Z7, val_sl] at hr); cbv)
        all_goals first
          | exact (List.length_set ..).symm
          | exact (getD_setT (by assumption)).symm
          | fail)
    all_goals try (
      have c0 : m.wires.length ≤ k := by omega
      refine fin1 _ _ _ _ ?_
      rw [eR hm hb, he, feed_end (by rw [hh, List.drop_eq_nil_of_le c0]; rfl)]
      done)
    all_goals fail

end Go.Proofs.Ytbnpacdkllmblaa
