/- What is handed in to a gate stays as it was, and what is told shares nothing with it; for all inputs. -/
import Derived.Test.YtpooooomhnehfaaGateP
import Derived.Test.YtpooooomhnehfaaOwnP
set_option linter.all false
namespace Go.Proofs.Ytpooooomhnehfaa
open Go Go.Abs

noncomputable def cGW : FuncId → Con := fun f => match f with
  | 24 => pureCon clStr_C
  | 23 => pureCon gclaim_C
  | 22 => pureCon ghand_C
  | 20 => pureCon (detPC eqStr_D)
  | 19 => pureCon (detPC glives_D)
  | _ => fun _ _ _ => Bad 1001
theorem cGW_ok : ConOk Try.prog cGW := fun f A H K h => by
  unfold cGW at h
  split at h
  · exact ⟨⟨Try.f24, Try.func24, by kernel_rfl, by kernel_rfl⟩, pureCon_ok clStr_ok h⟩
  · exact ⟨⟨Try.f23, Try.func23, by kernel_rfl, by kernel_rfl⟩, pureCon_ok gclaim_ok h⟩
  · exact ⟨⟨Try.f22, Try.func22, by kernel_rfl, by kernel_rfl⟩, pureCon_ok ghand_ok h⟩
  · exact ⟨⟨Try.f20, Try.func20, by kernel_rfl, by kernel_rfl⟩, pureCon_ok eqStr_ok h⟩
  · exact ⟨⟨Try.f19, Try.func19, by kernel_rfl, by kernel_rfl⟩, pureCon_ok glives_ok h⟩
  · cases h
theorem claim_size {g : Gate} {who epoch : Int} (h : Siz.bulk g.out ≤ 1048576) (i : Nat) : ((claimG g who epoch).1.out.getD i Dat.d0).size ≤ 1048576 := by
  unfold claimG
  split
  · split
    · exact bulk_el h i
    · exact Nat.zero_le _
  · exact Nat.zero_le _
theorem hand_size {g : Gate} {x : Give} (h : Siz.bulk g.out ≤ 1048576) (hs : x.text.size ≤ 1048576) (i : Nat) : ((handG g x).1.out.getD i Dat.d0).size ≤ 1048576 := by
  have h1 : ∀ i, (([x.text] : List ByteArray).getD i Dat.d0).size ≤ 1048576 := by
    intro i
    rcases i with _ | i
    · exact hs
    · exact Nat.zero_le _
  unfold handG
  split
  · split
    · exact bulk_el h i
    · show ((g.out ++ [x.text]).getD i Dat.d0).size ≤ _
      rw [gd_app]
      cases decide (i < g.out.length)
      · exact h1 _
      · exact bulk_el h i
  · exact Nat.zero_le _
set_option maxRecDepth 100000 in
set_option maxHeartbeats 4000000 in
theorem gown_vc (g : Gate) (x : Give) (fit_g : Siz.fit g) (fit_x : Siz.fit x) (hB : Siz.bulk g + Siz.bulk x ≤ 1048576) : FnOk Try.prog 11 [.agg (Dat.enc fun _ => g), .agg (Dat.enc fun _ => x)] [] (outA (.bc true) []) := by
  refine fn_ok envOk zl cGW_ok noDraws_ok (keep := [0, 1, 2, 3, 4, 5, 6, 9, 12, 14, 15, 44, 45, 46, 53, 54, 55]) Try.func11 rfl ?_
  have fin := @fin_b
  have finc := @fin_t
  generalize outA (.bc true) [] = K at fin finc
  have hb : Siz.bulk g.out ≤ 1048576 := by
    have : Siz.bulk g = Siz.bulk g.fence + Siz.bulk g.out + 1 := rfl
    omega
  have hxs : x.text.size ≤ 1048576 := by
    have h1 : Siz.bulk x = Siz.bulk x.who + Siz.bulk x.epoch + Siz.bulk x.num + Siz.bulk x.text + 1 := rfl
    have h2 : Siz.bulk x.text = x.text.size + 1 := rfl
    omega
  have hpl : g.out.length ≤ 1048576 := by
    have := bulk_len (α := ByteArray) (fun x => Nat.le_add_left _ _) g.out
    have h3 : Siz.bulk g.out = (g.out.map Siz.bulk).sum + 1 := rfl
    omega
  cbv
  repeat' first | (show Stp _; exfalso; first | omega | (exact h ‹_›) | (exact absurd ‹_› h) | (exact Bool.false_ne_true (h.symm.trans (show _ = true by assumption)))) | (refine Stp.mk ?_; cbv) | (refine Gen.mk fun r hr => ?_; (try simp only [Dat.ok, Dat.dec, Leaf.ok, Leaf.val, Fence.eta, Try.eta, Gate.eta, Give.eta, GateOp.eta, GateAns.eta, val_sl, val_nil] at hr); cbv) | exact trivial | rfl | refine Both.mk ?_ ?_ | (refine Imp.mk fun h => ?_; (try dsimp only at h); (try simp only [nc, Int.toNat_natCast, Bool.not_eq_true', Bool.not_eq_false', decide_eq_true_eq, decide_eq_false_iff_not, beq_iff_eq, beq_eq_false_iff_ne, ba_inj, bne_iff_ne, ne_eq, Bool.and_eq_true, Bool.or_eq_true, Bool.and_eq_false_iff, Bool.or_eq_false_iff, Int.not_le, Int.not_lt, Nat.not_le, Nat.not_lt] at h); (try simp only [nc] at h)) | refine Ob.mk ?_ ?_ | refine Chk.mk (by kernel_rfl) ?_ | refine Eq'.mk ?_ | (refine AllN.mk fun i hi => ?_; cbv) | (refine AllC.mk fun c hc hcm => ?_; (try dsimp only at hc); cbv) | (refine AllS.mk fun r hr => ?_; (try simp only [Dat.ok, Dat.dec, Leaf.ok, Leaf.val, Fence.eta, Try.eta, Gate.eta, Give.eta, GateOp.eta, GateAns.eta, val_sl] at hr); cbv)
  all_goals ((try dsimp only at *); (try simp only [nc, Int.toNat_natCast, Bool.not_eq_true', Bool.not_eq_false', decide_eq_true_eq, decide_eq_false_iff_not, beq_iff_eq, beq_eq_false_iff_ne, ba_inj, bne_iff_ne, ne_eq, Bool.and_eq_true, Bool.or_eq_true, Bool.and_eq_false_iff, Bool.or_eq_false_iff, Int.not_le, Int.not_lt, Nat.not_le, Nat.not_lt] at *); (try simp only [nc] at *))
  all_goals try simp only [Dat.dec, Leaf.val, Fence.eta, Try.eta, Gate.eta, Give.eta, GateOp.eta, GateAns.eta, val_sl] at *
  all_goals first
    | exact ⟨rfl, fun i _ => Dat.hok _⟩
    | exact ⟨⟨rfl, fun i _ => Dat.hok _⟩, show g.out.length ≤ _ by omega⟩
    | exact ⟨⟨rfl, fun i _ => Dat.hok _⟩, ⟨rfl, fun i _ => Dat.hok _⟩, show g.out.length ≤ _ by omega⟩
    | exact ⟨⟨trivial, trivial, rfl, fun i _ => Dat.hok _⟩, show g.out.length ≤ _ by omega⟩
    | exact ⟨⟨trivial, trivial, rfl, fun i _ => Dat.hok _⟩, ⟨trivial, trivial, trivial, trivial⟩, show g.out.length ≤ _ by omega⟩
    | skip
  all_goals first | exact Nat.le_refl _ | skip
  have hsz : ∀ i, (r.1.out.getD i Dat.d0).size ≤ 1048576 := by rw [hr]; exact fun i => hand_size hb hxs i
  have hsw : ∀ i, ((claimG g x.who x.epoch).1.out.getD i Dat.d0).size ≤ 1048576 := fun i => claim_size hb i
  rename (_ = claimG g x.who x.epoch) => hw
  obtain ⟨q, hq⟩ : ∃ q, claimG g x.who x.epoch = q := ⟨_, rfl⟩
  rw [hq] at hw hsw
  have hw := hw.symm
  subst hw
  have heq : eqStr_S g.out g.out = true := decide_eq_true rfl
  rename (_ = g.out) => hp0
  subst hp0
  refine LoopVC.un 3 ?_
  cbv
  repeat' first | (show Stp _; exfalso; first | omega | (exact h ‹_›) | (exact absurd ‹_› h) | (exact Bool.false_ne_true (h.symm.trans (show _ = true by assumption)))) | (refine Stp.mk ?_; cbv) | (refine Gen.mk fun r hr => ?_; (try simp only [Dat.ok, Dat.dec, Leaf.ok, Leaf.val, Fence.eta, Try.eta, Gate.eta, Give.eta, GateOp.eta, GateAns.eta, val_sl, val_nil] at hr); cbv) | exact trivial | rfl | refine Both.mk ?_ ?_ | (refine Imp.mk fun h => ?_; (try dsimp only at h); (try simp only [nc, Int.toNat_natCast, Bool.not_eq_true', Bool.not_eq_false', decide_eq_true_eq, decide_eq_false_iff_not, beq_iff_eq, beq_eq_false_iff_ne, ba_inj, bne_iff_ne, ne_eq, Bool.and_eq_true, Bool.or_eq_true, Bool.and_eq_false_iff, Bool.or_eq_false_iff, Int.not_le, Int.not_lt, Nat.not_le, Nat.not_lt] at h); (try simp only [nc] at h)) | refine Ob.mk ?_ ?_ | refine Chk.mk (by kernel_rfl) ?_ | refine Eq'.mk ?_ | (refine AllN.mk fun i hi => ?_; cbv) | (refine AllC.mk fun c hc hcm => ?_; (try dsimp only at hc); cbv) | (refine AllS.mk fun r hr => ?_; (try simp only [Dat.ok, Dat.dec, Leaf.ok, Leaf.val, Fence.eta, Try.eta, Gate.eta, Give.eta, GateOp.eta, GateAns.eta, val_sl] at hr); cbv)
  all_goals ((try dsimp only at *); (try simp only [nc, Int.toNat_natCast, Bool.not_eq_true', Bool.not_eq_false', decide_eq_true_eq, decide_eq_false_iff_not, beq_iff_eq, beq_eq_false_iff_ne, ba_inj, bne_iff_ne, ne_eq, Bool.and_eq_true, Bool.or_eq_true, Bool.and_eq_false_iff, Bool.or_eq_false_iff, Int.not_le, Int.not_lt, Nat.not_le, Nat.not_lt] at *); (try simp only [nc] at *))
  all_goals first
    | exact Nat.le_refl _
    | omega
    | exact ⟨trivial, trivial⟩
    | skip
  focus
    refine LoopVC.un 1 ?_
    cbv
    repeat' first | (show Stp _; exfalso; first | omega | (exact h ‹_›) | (exact absurd ‹_› h) | (exact Bool.false_ne_true (h.symm.trans (show _ = true by assumption)))) | (refine Stp.mk ?_; cbv) | (refine Gen.mk fun r hr => ?_; (try simp only [Dat.ok, Dat.dec, Leaf.ok, Leaf.val, Fence.eta, Try.eta, Gate.eta, Give.eta, GateOp.eta, GateAns.eta, val_sl, val_nil] at hr); cbv) | exact trivial | rfl | refine Both.mk ?_ ?_ | (refine Imp.mk fun h => ?_; (try dsimp only at h); (try simp only [nc, Int.toNat_natCast, Bool.not_eq_true', Bool.not_eq_false', decide_eq_true_eq, decide_eq_false_iff_not, beq_iff_eq, beq_eq_false_iff_ne, ba_inj, bne_iff_ne, ne_eq, Bool.and_eq_true, Bool.or_eq_true, Bool.and_eq_false_iff, Bool.or_eq_false_iff, Int.not_le, Int.not_lt, Nat.not_le, Nat.not_lt] at h); (try simp only [nc] at h)) | refine Ob.mk ?_ ?_ | refine Chk.mk (by kernel_rfl) ?_ | refine Eq'.mk ?_ | (refine AllN.mk fun i hi => ?_; cbv) | (refine AllC.mk fun c hc hcm => ?_; (try dsimp only at hc); cbv) | (refine AllS.mk fun r hr => ?_; (try simp only [Dat.ok, Dat.dec, Leaf.ok, Leaf.val, Fence.eta, Try.eta, Gate.eta, Give.eta, GateOp.eta, GateAns.eta, val_sl] at hr); cbv)
    all_goals ((try dsimp only at *); (try simp only [nc, Int.toNat_natCast, Bool.not_eq_true', Bool.not_eq_false', decide_eq_true_eq, decide_eq_false_iff_not, beq_iff_eq, beq_eq_false_iff_ne, ba_inj, bne_iff_ne, ne_eq, Bool.and_eq_true, Bool.or_eq_true, Bool.and_eq_false_iff, Bool.or_eq_false_iff, Int.not_le, Int.not_lt, Nat.not_le, Nat.not_lt] at *); (try simp only [nc] at *))
    all_goals first
      | omega
      | (unfold InR; omega)
      | exact ⟨trivial, trivial⟩
      | (simp only [Dat.dec, Leaf.val, Fence.eta, Try.eta, Gate.eta, Give.eta, GateOp.eta, GateAns.eta, val_sl]
         first
           | exact ⟨⟨rfl, fun i _ => Dat.hok _⟩, ⟨rfl, fun i _ => Dat.hok _⟩, show g.out.length ≤ _ by omega⟩
           | (refine fin ?_; exact heq))
      | (exfalso
         rename (eqStr_S _ _ = false) => z1
         simp only [Dat.dec, Leaf.val, Fence.eta, Try.eta, Gate.eta, Give.eta, GateOp.eta, GateAns.eta, val_sl] at z1
         rw [heq] at z1
         cases z1)
      | skip
  rotate_left 2
  focus
    refine LoopVC.frame [15, 54, 55] (PwX c) (fun x => [(54, .i .i64 fun _ => x.k)]) (fun x => [(3, vecO 9 fun _ => x.l)]) [] (fun x => c - x.k)
      ⟨0, Nat.zero_le _, q.1.out ++ List.replicate (c - q.1.out.length) .empty, by simp; omega, fun i _ hi => padS hsw i⟩ rfl (fun _ => rfl) ?_ ?_ fun ⟨k, hk, l, hl, hs⟩ => ?_
    · cbv
      repeat' first | (refine Stp.mk ?_; cbv) | (refine Gen.mk fun r hr => ?_; (try simp only [Dat.ok, Dat.dec, Leaf.ok, Leaf.val, Fence.eta, Try.eta, Gate.eta, Give.eta, GateOp.eta, GateAns.eta, val_sl, val_nil] at hr); cbv) | exact trivial | rfl | refine Both.mk ?_ ?_ | (refine Imp.mk fun h => ?_; (try dsimp only at h); (try simp only [nc, Int.toNat_natCast, Bool.not_eq_true', Bool.not_eq_false', decide_eq_true_eq, decide_eq_false_iff_not, beq_iff_eq, beq_eq_false_iff_ne, ba_inj, bne_iff_ne, ne_eq, Bool.and_eq_true, Bool.or_eq_true, Bool.and_eq_false_iff, Bool.or_eq_false_iff, Int.not_le, Int.not_lt, Nat.not_le, Nat.not_lt] at h); (try simp only [nc] at h)) | refine Ob.mk ?_ ?_ | refine Chk.mk (by kernel_rfl) ?_ | refine Eq'.mk ?_ | (refine AllN.mk fun i hi => ?_; cbv) | (refine AllC.mk fun c hc hcm => ?_; (try dsimp only at hc); cbv) | (refine AllS.mk fun r hr => ?_; (try simp only [Dat.ok, Dat.dec, Leaf.ok, Leaf.val, Fence.eta, Try.eta, Gate.eta, Give.eta, GateOp.eta, GateAns.eta, val_sl] at hr); cbv)
    · cbv
      repeat' first | (refine Stp.mk ?_; cbv) | (refine Gen.mk fun r hr => ?_; (try simp only [Dat.ok, Dat.dec, Leaf.ok, Leaf.val, Fence.eta, Try.eta, Gate.eta, Give.eta, GateOp.eta, GateAns.eta, val_sl, val_nil] at hr); cbv) | exact trivial | rfl | refine Both.mk ?_ ?_ | (refine Imp.mk fun h => ?_; (try dsimp only at h); (try simp only [nc, Int.toNat_natCast, Bool.not_eq_true', Bool.not_eq_false', decide_eq_true_eq, decide_eq_false_iff_not, beq_iff_eq, beq_eq_false_iff_ne, ba_inj, bne_iff_ne, ne_eq, Bool.and_eq_true, Bool.or_eq_true, Bool.and_eq_false_iff, Bool.or_eq_false_iff, Int.not_le, Int.not_lt, Nat.not_le, Nat.not_lt] at h); (try simp only [nc] at h)) | refine Ob.mk ?_ ?_ | refine Chk.mk (by kernel_rfl) ?_ | refine Eq'.mk ?_ | (refine AllN.mk fun i hi => ?_; cbv) | (refine AllC.mk fun c hc hcm => ?_; (try dsimp only at hc); cbv) | (refine AllS.mk fun r hr => ?_; (try simp only [Dat.ok, Dat.dec, Leaf.ok, Leaf.val, Fence.eta, Try.eta, Gate.eta, Give.eta, GateOp.eta, GateAns.eta, val_sl] at hr); cbv)
      all_goals (try dsimp only at hi)
      all_goals first
        | (show c = (q.1.out ++ List.replicate (c - q.1.out.length) ByteArray.empty).length
           rw [List.length_append, List.length_replicate]; omega)
        | (show (bif decide (i < q.1.out.length) then q.1.out.getD i Dat.d0 else ByteArray.empty) = (q.1.out ++ List.replicate (c - q.1.out.length) ByteArray.empty).getD i Dat.d0
           exact padG i)
        | fail
    have hsk := hs k (Nat.le_refl _)
    cbv
    repeat' first | (show Stp _; exfalso; first | omega | (exact h ‹_›) | (exact absurd ‹_› h) | (exact Bool.false_ne_true (h.symm.trans (show _ = true by assumption)))) | (refine Stp.mk ?_; cbv) | (refine Gen.mk fun r hr => ?_; (try simp only [Dat.ok, Dat.dec, Leaf.ok, Leaf.val, Fence.eta, Try.eta, Gate.eta, Give.eta, GateOp.eta, GateAns.eta, val_sl, val_nil] at hr); cbv) | exact trivial | rfl | refine Both.mk ?_ ?_ | (refine Imp.mk fun h => ?_; (try dsimp only at h); (try simp only [nc, Int.toNat_natCast, Bool.not_eq_true', Bool.not_eq_false', decide_eq_true_eq, decide_eq_false_iff_not, beq_iff_eq, beq_eq_false_iff_ne, ba_inj, bne_iff_ne, ne_eq, Bool.and_eq_true, Bool.or_eq_true, Bool.and_eq_false_iff, Bool.or_eq_false_iff, Int.not_le, Int.not_lt, Nat.not_le, Nat.not_lt] at h); (try simp only [nc] at h)) | refine Ob.mk ?_ ?_ | refine Chk.mk (by kernel_rfl) ?_ | refine Eq'.mk ?_ | (refine AllN.mk fun i hi => ?_; cbv) | (refine AllC.mk fun c hc hcm => ?_; (try dsimp only at hc); cbv) | (refine AllS.mk fun r hr => ?_; (try simp only [Dat.ok, Dat.dec, Leaf.ok, Leaf.val, Fence.eta, Try.eta, Gate.eta, Give.eta, GateOp.eta, GateAns.eta, val_sl] at hr); cbv)
    all_goals ((try dsimp only at *); (try simp only [nc, Int.toNat_natCast, Bool.not_eq_true', Bool.not_eq_false', decide_eq_true_eq, decide_eq_false_iff_not, beq_iff_eq, beq_eq_false_iff_ne, ba_inj, bne_iff_ne, ne_eq, Bool.and_eq_true, Bool.or_eq_true, Bool.and_eq_false_iff, Bool.or_eq_false_iff, Int.not_le, Int.not_lt, Nat.not_le, Nat.not_lt] at *); (try simp only [nc] at *))
    all_goals first
      | omega
      | (unfold InR; omega)
      | exact ⟨trivial, trivial⟩
      | (have e1 := hsk (by omega)
         have e2 : (⟨⟨[33]⟩⟩ : ByteArray).size = 1 := rfl
         show (l.getD k Dat.d0).size + _ ≤ _
         omega)
      | (refine ⟨⟨k + 1, by omega, l.set k (l.getD k Dat.d0 ++ ⟨⟨[33]⟩⟩), by rw [List.length_set]; exact hl, fun i h1 h2 => by rw [gd_set _ _ _ _ _ (by omega), show decide (i = k) = false from decide_eq_false (by omega)]; exact hs i (by omega) h2⟩, ?_, ?_, rfl, by (try dsimp only); omega⟩
         · cbv
           repeat' first | (refine Stp.mk ?_; cbv) | (refine Gen.mk fun r hr => ?_; (try simp only [Dat.ok, Dat.dec, Leaf.ok, Leaf.val, Fence.eta, Try.eta, Gate.eta, Give.eta, GateOp.eta, GateAns.eta, val_sl, val_nil] at hr); cbv) | exact trivial | rfl | refine Both.mk ?_ ?_ | (refine Imp.mk fun h => ?_; (try dsimp only at h); (try simp only [nc, Int.toNat_natCast, Bool.not_eq_true', Bool.not_eq_false', decide_eq_true_eq, decide_eq_false_iff_not, beq_iff_eq, beq_eq_false_iff_ne, ba_inj, bne_iff_ne, ne_eq, Bool.and_eq_true, Bool.or_eq_true, Bool.and_eq_false_iff, Bool.or_eq_false_iff, Int.not_le, Int.not_lt, Nat.not_le, Nat.not_lt] at h); (try simp only [nc] at h)) | refine Ob.mk ?_ ?_ | refine Chk.mk (by kernel_rfl) ?_ | refine Eq'.mk ?_ | (refine AllN.mk fun i hi => ?_; cbv) | (refine AllC.mk fun c hc hcm => ?_; (try dsimp only at hc); cbv) | (refine AllS.mk fun r hr => ?_; (try simp only [Dat.ok, Dat.dec, Leaf.ok, Leaf.val, Fence.eta, Try.eta, Gate.eta, Give.eta, GateOp.eta, GateAns.eta, val_sl] at hr); cbv)
         · cbv
           repeat' first | (refine Stp.mk ?_; cbv) | (refine Gen.mk fun r hr => ?_; (try simp only [Dat.ok, Dat.dec, Leaf.ok, Leaf.val, Fence.eta, Try.eta, Gate.eta, Give.eta, GateOp.eta, GateAns.eta, val_sl, val_nil] at hr); cbv) | exact trivial | rfl | refine Both.mk ?_ ?_ | (refine Imp.mk fun h => ?_; (try dsimp only at h); (try simp only [nc, Int.toNat_natCast, Bool.not_eq_true', Bool.not_eq_false', decide_eq_true_eq, decide_eq_false_iff_not, beq_iff_eq, beq_eq_false_iff_ne, ba_inj, bne_iff_ne, ne_eq, Bool.and_eq_true, Bool.or_eq_true, Bool.and_eq_false_iff, Bool.or_eq_false_iff, Int.not_le, Int.not_lt, Nat.not_le, Nat.not_lt] at h); (try simp only [nc] at h)) | refine Ob.mk ?_ ?_ | refine Chk.mk (by kernel_rfl) ?_ | refine Eq'.mk ?_ | (refine AllN.mk fun i hi => ?_; cbv) | (refine AllC.mk fun c hc hcm => ?_; (try dsimp only at hc); cbv) | (refine AllS.mk fun r hr => ?_; (try simp only [Dat.ok, Dat.dec, Leaf.ok, Leaf.val, Fence.eta, Try.eta, Gate.eta, Give.eta, GateOp.eta, GateAns.eta, val_sl] at hr); cbv)
           all_goals ((try dsimp only at *); (try simp only [nc, Int.toNat_natCast, Bool.not_eq_true', Bool.not_eq_false', decide_eq_true_eq, decide_eq_false_iff_not, beq_iff_eq, beq_eq_false_iff_ne, ba_inj, bne_iff_ne, ne_eq, Bool.and_eq_true, Bool.or_eq_true, Bool.and_eq_false_iff, Bool.or_eq_false_iff, Int.not_le, Int.not_lt, Nat.not_le, Nat.not_lt] at *); (try simp only [nc] at *))
           all_goals first
             | exact (List.length_set ..).symm
             | (show _ = (l.set k _).getD i Dat.d0
                rw [gd_set _ _ _ _ _ (by omega)]))
      | (simp only [Dat.dec, Leaf.val, Fence.eta, Try.eta, Gate.eta, Give.eta, GateOp.eta, GateAns.eta, val_sl]
         first
           | exact ⟨⟨rfl, fun i _ => Dat.hok _⟩, ⟨rfl, fun i _ => Dat.hok _⟩, show g.out.length ≤ _ by omega⟩
           | (refine fin ?_; exact heq))
      | (exfalso
         rename (eqStr_S _ _ = false) => z1
         simp only [Dat.dec, Leaf.val, Fence.eta, Try.eta, Gate.eta, Give.eta, GateOp.eta, GateAns.eta, val_sl] at z1
         rw [heq] at z1
         cases z1)
      | skip
  focus
    refine LoopVC.un 1 ?_
    cbv
    repeat' first | (show Stp _; exfalso; first | omega | (exact h ‹_›) | (exact absurd ‹_› h) | (exact Bool.false_ne_true (h.symm.trans (show _ = true by assumption)))) | (refine Stp.mk ?_; cbv) | (refine Gen.mk fun r hr => ?_; (try simp only [Dat.ok, Dat.dec, Leaf.ok, Leaf.val, Fence.eta, Try.eta, Gate.eta, Give.eta, GateOp.eta, GateAns.eta, val_sl, val_nil] at hr); cbv) | exact trivial | rfl | refine Both.mk ?_ ?_ | (refine Imp.mk fun h => ?_; (try dsimp only at h); (try simp only [nc, Int.toNat_natCast, Bool.not_eq_true', Bool.not_eq_false', decide_eq_true_eq, decide_eq_false_iff_not, beq_iff_eq, beq_eq_false_iff_ne, ba_inj, bne_iff_ne, ne_eq, Bool.and_eq_true, Bool.or_eq_true, Bool.and_eq_false_iff, Bool.or_eq_false_iff, Int.not_le, Int.not_lt, Nat.not_le, Nat.not_lt] at h); (try simp only [nc] at h)) | refine Ob.mk ?_ ?_ | refine Chk.mk (by kernel_rfl) ?_ | refine Eq'.mk ?_ | (refine AllN.mk fun i hi => ?_; cbv) | (refine AllC.mk fun c hc hcm => ?_; (try dsimp only at hc); cbv) | (refine AllS.mk fun r hr => ?_; (try simp only [Dat.ok, Dat.dec, Leaf.ok, Leaf.val, Fence.eta, Try.eta, Gate.eta, Give.eta, GateOp.eta, GateAns.eta, val_sl] at hr); cbv)
    all_goals ((try dsimp only at *); (try simp only [nc, Int.toNat_natCast, Bool.not_eq_true', Bool.not_eq_false', decide_eq_true_eq, decide_eq_false_iff_not, beq_iff_eq, beq_eq_false_iff_ne, ba_inj, bne_iff_ne, ne_eq, Bool.and_eq_true, Bool.or_eq_true, Bool.and_eq_false_iff, Bool.or_eq_false_iff, Int.not_le, Int.not_lt, Nat.not_le, Nat.not_lt] at *); (try simp only [nc] at *))
    all_goals first
      | omega
      | (unfold InR; omega)
      | exact ⟨trivial, trivial⟩
      | (simp only [Dat.dec, Leaf.val, Fence.eta, Try.eta, Gate.eta, Give.eta, GateOp.eta, GateAns.eta, val_sl]
         first
           | exact ⟨⟨rfl, fun i _ => Dat.hok _⟩, ⟨rfl, fun i _ => Dat.hok _⟩, show g.out.length ≤ _ by omega⟩
           | (refine fin ?_; exact heq))
      | (exfalso
         rename (eqStr_S _ _ = false) => z1
         simp only [Dat.dec, Leaf.val, Fence.eta, Try.eta, Gate.eta, Give.eta, GateOp.eta, GateAns.eta, val_sl] at z1
         rw [heq] at z1
         cases z1)
      | skip
  focus
    refine LoopVC.frame [15, 54, 55] (PwX c) (fun x => [(54, .i .i64 fun _ => x.k)]) (fun x => [(5, vecO 9 fun _ => x.l)]) [] (fun x => c - x.k)
      ⟨0, Nat.zero_le _, r.1.out ++ List.replicate (c - r.1.out.length) .empty, by simp; omega, fun i _ hi => padS hsz i⟩ rfl (fun _ => rfl) ?_ ?_ fun ⟨k, hk, l, hl, hs⟩ => ?_
    · cbv
      repeat' first | (refine Stp.mk ?_; cbv) | (refine Gen.mk fun r hr => ?_; (try simp only [Dat.ok, Dat.dec, Leaf.ok, Leaf.val, Fence.eta, Try.eta, Gate.eta, Give.eta, GateOp.eta, GateAns.eta, val_sl, val_nil] at hr); cbv) | exact trivial | rfl | refine Both.mk ?_ ?_ | (refine Imp.mk fun h => ?_; (try dsimp only at h); (try simp only [nc, Int.toNat_natCast, Bool.not_eq_true', Bool.not_eq_false', decide_eq_true_eq, decide_eq_false_iff_not, beq_iff_eq, beq_eq_false_iff_ne, ba_inj, bne_iff_ne, ne_eq, Bool.and_eq_true, Bool.or_eq_true, Bool.and_eq_false_iff, Bool.or_eq_false_iff, Int.not_le, Int.not_lt, Nat.not_le, Nat.not_lt] at h); (try simp only [nc] at h)) | refine Ob.mk ?_ ?_ | refine Chk.mk (by kernel_rfl) ?_ | refine Eq'.mk ?_ | (refine AllN.mk fun i hi => ?_; cbv) | (refine AllC.mk fun c hc hcm => ?_; (try dsimp only at hc); cbv) | (refine AllS.mk fun r hr => ?_; (try simp only [Dat.ok, Dat.dec, Leaf.ok, Leaf.val, Fence.eta, Try.eta, Gate.eta, Give.eta, GateOp.eta, GateAns.eta, val_sl] at hr); cbv)
    · cbv
      repeat' first | (refine Stp.mk ?_; cbv) | (refine Gen.mk fun r hr => ?_; (try simp only [Dat.ok, Dat.dec, Leaf.ok, Leaf.val, Fence.eta, Try.eta, Gate.eta, Give.eta, GateOp.eta, GateAns.eta, val_sl, val_nil] at hr); cbv) | exact trivial | rfl | refine Both.mk ?_ ?_ | (refine Imp.mk fun h => ?_; (try dsimp only at h); (try simp only [nc, Int.toNat_natCast, Bool.not_eq_true', Bool.not_eq_false', decide_eq_true_eq, decide_eq_false_iff_not, beq_iff_eq, beq_eq_false_iff_ne, ba_inj, bne_iff_ne, ne_eq, Bool.and_eq_true, Bool.or_eq_true, Bool.and_eq_false_iff, Bool.or_eq_false_iff, Int.not_le, Int.not_lt, Nat.not_le, Nat.not_lt] at h); (try simp only [nc] at h)) | refine Ob.mk ?_ ?_ | refine Chk.mk (by kernel_rfl) ?_ | refine Eq'.mk ?_ | (refine AllN.mk fun i hi => ?_; cbv) | (refine AllC.mk fun c hc hcm => ?_; (try dsimp only at hc); cbv) | (refine AllS.mk fun r hr => ?_; (try simp only [Dat.ok, Dat.dec, Leaf.ok, Leaf.val, Fence.eta, Try.eta, Gate.eta, Give.eta, GateOp.eta, GateAns.eta, val_sl] at hr); cbv)
      all_goals (try dsimp only at hi)
      all_goals first
        | (show c = (r.1.out ++ List.replicate (c - r.1.out.length) ByteArray.empty).length
           rw [List.length_append, List.length_replicate]; omega)
        | (show (bif decide (i < r.1.out.length) then r.1.out.getD i Dat.d0 else ByteArray.empty) = (r.1.out ++ List.replicate (c - r.1.out.length) ByteArray.empty).getD i Dat.d0
           exact padG i)
        | fail
    have hsk := hs k (Nat.le_refl _)
    cbv
    repeat' first | (show Stp _; exfalso; first | omega | (exact h ‹_›) | (exact absurd ‹_› h) | (exact Bool.false_ne_true (h.symm.trans (show _ = true by assumption)))) | (refine Stp.mk ?_; cbv) | (refine Gen.mk fun r hr => ?_; (try simp only [Dat.ok, Dat.dec, Leaf.ok, Leaf.val, Fence.eta, Try.eta, Gate.eta, Give.eta, GateOp.eta, GateAns.eta, val_sl, val_nil] at hr); cbv) | exact trivial | rfl | refine Both.mk ?_ ?_ | (refine Imp.mk fun h => ?_; (try dsimp only at h); (try simp only [nc, Int.toNat_natCast, Bool.not_eq_true', Bool.not_eq_false', decide_eq_true_eq, decide_eq_false_iff_not, beq_iff_eq, beq_eq_false_iff_ne, ba_inj, bne_iff_ne, ne_eq, Bool.and_eq_true, Bool.or_eq_true, Bool.and_eq_false_iff, Bool.or_eq_false_iff, Int.not_le, Int.not_lt, Nat.not_le, Nat.not_lt] at h); (try simp only [nc] at h)) | refine Ob.mk ?_ ?_ | refine Chk.mk (by kernel_rfl) ?_ | refine Eq'.mk ?_ | (refine AllN.mk fun i hi => ?_; cbv) | (refine AllC.mk fun c hc hcm => ?_; (try dsimp only at hc); cbv) | (refine AllS.mk fun r hr => ?_; (try simp only [Dat.ok, Dat.dec, Leaf.ok, Leaf.val, Fence.eta, Try.eta, Gate.eta, Give.eta, GateOp.eta, GateAns.eta, val_sl] at hr); cbv)
    all_goals ((try dsimp only at *); (try simp only [nc, Int.toNat_natCast, Bool.not_eq_true', Bool.not_eq_false', decide_eq_true_eq, decide_eq_false_iff_not, beq_iff_eq, beq_eq_false_iff_ne, ba_inj, bne_iff_ne, ne_eq, Bool.and_eq_true, Bool.or_eq_true, Bool.and_eq_false_iff, Bool.or_eq_false_iff, Int.not_le, Int.not_lt, Nat.not_le, Nat.not_lt] at *); (try simp only [nc] at *))
    all_goals first
      | omega
      | (unfold InR; omega)
      | exact ⟨trivial, trivial⟩
      | (have e1 := hsk (by omega)
         have e2 : (⟨⟨[33]⟩⟩ : ByteArray).size = 1 := rfl
         show (l.getD k Dat.d0).size + _ ≤ _
         omega)
      | (refine ⟨⟨k + 1, by omega, l.set k (l.getD k Dat.d0 ++ ⟨⟨[33]⟩⟩), by rw [List.length_set]; exact hl, fun i h1 h2 => by rw [gd_set _ _ _ _ _ (by omega), show decide (i = k) = false from decide_eq_false (by omega)]; exact hs i (by omega) h2⟩, ?_, ?_, rfl, by (try dsimp only); omega⟩
         · cbv
           repeat' first | (refine Stp.mk ?_; cbv) | (refine Gen.mk fun r hr => ?_; (try simp only [Dat.ok, Dat.dec, Leaf.ok, Leaf.val, Fence.eta, Try.eta, Gate.eta, Give.eta, GateOp.eta, GateAns.eta, val_sl, val_nil] at hr); cbv) | exact trivial | rfl | refine Both.mk ?_ ?_ | (refine Imp.mk fun h => ?_; (try dsimp only at h); (try simp only [nc, Int.toNat_natCast, Bool.not_eq_true', Bool.not_eq_false', decide_eq_true_eq, decide_eq_false_iff_not, beq_iff_eq, beq_eq_false_iff_ne, ba_inj, bne_iff_ne, ne_eq, Bool.and_eq_true, Bool.or_eq_true, Bool.and_eq_false_iff, Bool.or_eq_false_iff, Int.not_le, Int.not_lt, Nat.not_le, Nat.not_lt] at h); (try simp only [nc] at h)) | refine Ob.mk ?_ ?_ | refine Chk.mk (by kernel_rfl) ?_ | refine Eq'.mk ?_ | (refine AllN.mk fun i hi => ?_; cbv) | (refine AllC.mk fun c hc hcm => ?_; (try dsimp only at hc); cbv) | (refine AllS.mk fun r hr => ?_; (try simp only [Dat.ok, Dat.dec, Leaf.ok, Leaf.val, Fence.eta, Try.eta, Gate.eta, Give.eta, GateOp.eta, GateAns.eta, val_sl] at hr); cbv)
         · cbv
           repeat' first | (refine Stp.mk ?_; cbv) | (refine Gen.mk fun r hr => ?_; (try simp only [Dat.ok, Dat.dec, Leaf.ok, Leaf.val, Fence.eta, Try.eta, Gate.eta, Give.eta, GateOp.eta, GateAns.eta, val_sl, val_nil] at hr); cbv) | exact trivial | rfl | refine Both.mk ?_ ?_ | (refine Imp.mk fun h => ?_; (try dsimp only at h); (try simp only [nc, Int.toNat_natCast, Bool.not_eq_true', Bool.not_eq_false', decide_eq_true_eq, decide_eq_false_iff_not, beq_iff_eq, beq_eq_false_iff_ne, ba_inj, bne_iff_ne, ne_eq, Bool.and_eq_true, Bool.or_eq_true, Bool.and_eq_false_iff, Bool.or_eq_false_iff, Int.not_le, Int.not_lt, Nat.not_le, Nat.not_lt] at h); (try simp only [nc] at h)) | refine Ob.mk ?_ ?_ | refine Chk.mk (by kernel_rfl) ?_ | refine Eq'.mk ?_ | (refine AllN.mk fun i hi => ?_; cbv) | (refine AllC.mk fun c hc hcm => ?_; (try dsimp only at hc); cbv) | (refine AllS.mk fun r hr => ?_; (try simp only [Dat.ok, Dat.dec, Leaf.ok, Leaf.val, Fence.eta, Try.eta, Gate.eta, Give.eta, GateOp.eta, GateAns.eta, val_sl] at hr); cbv)
           all_goals ((try dsimp only at *); (try simp only [nc, Int.toNat_natCast, Bool.not_eq_true', Bool.not_eq_false', decide_eq_true_eq, decide_eq_false_iff_not, beq_iff_eq, beq_eq_false_iff_ne, ba_inj, bne_iff_ne, ne_eq, Bool.and_eq_true, Bool.or_eq_true, Bool.and_eq_false_iff, Bool.or_eq_false_iff, Int.not_le, Int.not_lt, Nat.not_le, Nat.not_lt] at *); (try simp only [nc] at *))
           all_goals first
             | exact (List.length_set ..).symm
             | (show _ = (l.set k _).getD i Dat.d0
                rw [gd_set _ _ _ _ _ (by omega)]))
      | (simp only [Dat.dec, Leaf.val, Fence.eta, Try.eta, Gate.eta, Give.eta, GateOp.eta, GateAns.eta, val_sl]
         first
           | exact ⟨⟨rfl, fun i _ => Dat.hok _⟩, ⟨rfl, fun i _ => Dat.hok _⟩, show g.out.length ≤ _ by omega⟩
           | (refine fin ?_; exact heq))
      | (exfalso
         rename (eqStr_S _ _ = false) => z1
         simp only [Dat.dec, Leaf.val, Fence.eta, Try.eta, Gate.eta, Give.eta, GateOp.eta, GateAns.eta, val_sl] at z1
         rw [heq] at z1
         cases z1)
      | skip
  focus
    refine LoopVC.un 1 ?_
    cbv
    repeat' first | (show Stp _; exfalso; first | omega | (exact h ‹_›) | (exact absurd ‹_› h) | (exact Bool.false_ne_true (h.symm.trans (show _ = true by assumption)))) | (refine Stp.mk ?_; cbv) | (refine Gen.mk fun r hr => ?_; (try simp only [Dat.ok, Dat.dec, Leaf.ok, Leaf.val, Fence.eta, Try.eta, Gate.eta, Give.eta, GateOp.eta, GateAns.eta, val_sl, val_nil] at hr); cbv) | exact trivial | rfl | refine Both.mk ?_ ?_ | (refine Imp.mk fun h => ?_; (try dsimp only at h); (try simp only [nc, Int.toNat_natCast, Bool.not_eq_true', Bool.not_eq_false', decide_eq_true_eq, decide_eq_false_iff_not, beq_iff_eq, beq_eq_false_iff_ne, ba_inj, bne_iff_ne, ne_eq, Bool.and_eq_true, Bool.or_eq_true, Bool.and_eq_false_iff, Bool.or_eq_false_iff, Int.not_le, Int.not_lt, Nat.not_le, Nat.not_lt] at h); (try simp only [nc] at h)) | refine Ob.mk ?_ ?_ | refine Chk.mk (by kernel_rfl) ?_ | refine Eq'.mk ?_ | (refine AllN.mk fun i hi => ?_; cbv) | (refine AllC.mk fun c hc hcm => ?_; (try dsimp only at hc); cbv) | (refine AllS.mk fun r hr => ?_; (try simp only [Dat.ok, Dat.dec, Leaf.ok, Leaf.val, Fence.eta, Try.eta, Gate.eta, Give.eta, GateOp.eta, GateAns.eta, val_sl] at hr); cbv)
    all_goals ((try dsimp only at *); (try simp only [nc, Int.toNat_natCast, Bool.not_eq_true', Bool.not_eq_false', decide_eq_true_eq, decide_eq_false_iff_not, beq_iff_eq, beq_eq_false_iff_ne, ba_inj, bne_iff_ne, ne_eq, Bool.and_eq_true, Bool.or_eq_true, Bool.and_eq_false_iff, Bool.or_eq_false_iff, Int.not_le, Int.not_lt, Nat.not_le, Nat.not_lt] at *); (try simp only [nc] at *))
    all_goals first
      | omega
      | (unfold InR; omega)
      | exact ⟨trivial, trivial⟩
      | (simp only [Dat.dec, Leaf.val, Fence.eta, Try.eta, Gate.eta, Give.eta, GateOp.eta, GateAns.eta, val_sl]
         first
           | exact ⟨⟨rfl, fun i _ => Dat.hok _⟩, ⟨rfl, fun i _ => Dat.hok _⟩, show g.out.length ≤ _ by omega⟩
           | (refine fin ?_; exact heq))
      | (exfalso
         rename (eqStr_S _ _ = false) => z1
         simp only [Dat.dec, Leaf.val, Fence.eta, Try.eta, Gate.eta, Give.eta, GateOp.eta, GateAns.eta, val_sl] at z1
         rw [heq] at z1
         cases z1)
      | skip
  focus
    refine LoopVC.frame [15, 54, 55] (PwX c) (fun x => [(54, .i .i64 fun _ => x.k)]) (fun x => [(5, vecO 9 fun _ => x.l)]) [] (fun x => c - x.k)
      ⟨0, Nat.zero_le _, r.1.out ++ List.replicate (c - r.1.out.length) .empty, by simp; omega, fun i _ hi => padS hsz i⟩ rfl (fun _ => rfl) ?_ ?_ fun ⟨k, hk, l, hl, hs⟩ => ?_
    · cbv
      repeat' first | (refine Stp.mk ?_; cbv) | (refine Gen.mk fun r hr => ?_; (try simp only [Dat.ok, Dat.dec, Leaf.ok, Leaf.val, Fence.eta, Try.eta, Gate.eta, Give.eta, GateOp.eta, GateAns.eta, val_sl, val_nil] at hr); cbv) | exact trivial | rfl | refine Both.mk ?_ ?_ | (refine Imp.mk fun h => ?_; (try dsimp only at h); (try simp only [nc, Int.toNat_natCast, Bool.not_eq_true', Bool.not_eq_false', decide_eq_true_eq, decide_eq_false_iff_not, beq_iff_eq, beq_eq_false_iff_ne, ba_inj, bne_iff_ne, ne_eq, Bool.and_eq_true, Bool.or_eq_true, Bool.and_eq_false_iff, Bool.or_eq_false_iff, Int.not_le, Int.not_lt, Nat.not_le, Nat.not_lt] at h); (try simp only [nc] at h)) | refine Ob.mk ?_ ?_ | refine Chk.mk (by kernel_rfl) ?_ | refine Eq'.mk ?_ | (refine AllN.mk fun i hi => ?_; cbv) | (refine AllC.mk fun c hc hcm => ?_; (try dsimp only at hc); cbv) | (refine AllS.mk fun r hr => ?_; (try simp only [Dat.ok, Dat.dec, Leaf.ok, Leaf.val, Fence.eta, Try.eta, Gate.eta, Give.eta, GateOp.eta, GateAns.eta, val_sl] at hr); cbv)
    · cbv
      repeat' first | (refine Stp.mk ?_; cbv) | (refine Gen.mk fun r hr => ?_; (try simp only [Dat.ok, Dat.dec, Leaf.ok, Leaf.val, Fence.eta, Try.eta, Gate.eta, Give.eta, GateOp.eta, GateAns.eta, val_sl, val_nil] at hr); cbv) | exact trivial | rfl | refine Both.mk ?_ ?_ | (refine Imp.mk fun h => ?_; (try dsimp only at h); (try simp only [nc, Int.toNat_natCast, Bool.not_eq_true', Bool.not_eq_false', decide_eq_true_eq, decide_eq_false_iff_not, beq_iff_eq, beq_eq_false_iff_ne, ba_inj, bne_iff_ne, ne_eq, Bool.and_eq_true, Bool.or_eq_true, Bool.and_eq_false_iff, Bool.or_eq_false_iff, Int.not_le, Int.not_lt, Nat.not_le, Nat.not_lt] at h); (try simp only [nc] at h)) | refine Ob.mk ?_ ?_ | refine Chk.mk (by kernel_rfl) ?_ | refine Eq'.mk ?_ | (refine AllN.mk fun i hi => ?_; cbv) | (refine AllC.mk fun c hc hcm => ?_; (try dsimp only at hc); cbv) | (refine AllS.mk fun r hr => ?_; (try simp only [Dat.ok, Dat.dec, Leaf.ok, Leaf.val, Fence.eta, Try.eta, Gate.eta, Give.eta, GateOp.eta, GateAns.eta, val_sl] at hr); cbv)
      all_goals (try dsimp only at hi)
      all_goals first
        | (show c = (r.1.out ++ List.replicate (c - r.1.out.length) ByteArray.empty).length
           rw [List.length_append, List.length_replicate]; omega)
        | (show (bif decide (i < r.1.out.length) then r.1.out.getD i Dat.d0 else ByteArray.empty) = (r.1.out ++ List.replicate (c - r.1.out.length) ByteArray.empty).getD i Dat.d0
           exact padG i)
        | fail
    have hsk := hs k (Nat.le_refl _)
    cbv
    repeat' first | (show Stp _; exfalso; first | omega | (exact h ‹_›) | (exact absurd ‹_› h) | (exact Bool.false_ne_true (h.symm.trans (show _ = true by assumption)))) | (refine Stp.mk ?_; cbv) | (refine Gen.mk fun r hr => ?_; (try simp only [Dat.ok, Dat.dec, Leaf.ok, Leaf.val, Fence.eta, Try.eta, Gate.eta, Give.eta, GateOp.eta, GateAns.eta, val_sl, val_nil] at hr); cbv) | exact trivial | rfl | refine Both.mk ?_ ?_ | (refine Imp.mk fun h => ?_; (try dsimp only at h); (try simp only [nc, Int.toNat_natCast, Bool.not_eq_true', Bool.not_eq_false', decide_eq_true_eq, decide_eq_false_iff_not, beq_iff_eq, beq_eq_false_iff_ne, ba_inj, bne_iff_ne, ne_eq, Bool.and_eq_true, Bool.or_eq_true, Bool.and_eq_false_iff, Bool.or_eq_false_iff, Int.not_le, Int.not_lt, Nat.not_le, Nat.not_lt] at h); (try simp only [nc] at h)) | refine Ob.mk ?_ ?_ | refine Chk.mk (by kernel_rfl) ?_ | refine Eq'.mk ?_ | (refine AllN.mk fun i hi => ?_; cbv) | (refine AllC.mk fun c hc hcm => ?_; (try dsimp only at hc); cbv) | (refine AllS.mk fun r hr => ?_; (try simp only [Dat.ok, Dat.dec, Leaf.ok, Leaf.val, Fence.eta, Try.eta, Gate.eta, Give.eta, GateOp.eta, GateAns.eta, val_sl] at hr); cbv)
    all_goals ((try dsimp only at *); (try simp only [nc, Int.toNat_natCast, Bool.not_eq_true', Bool.not_eq_false', decide_eq_true_eq, decide_eq_false_iff_not, beq_iff_eq, beq_eq_false_iff_ne, ba_inj, bne_iff_ne, ne_eq, Bool.and_eq_true, Bool.or_eq_true, Bool.and_eq_false_iff, Bool.or_eq_false_iff, Int.not_le, Int.not_lt, Nat.not_le, Nat.not_lt] at *); (try simp only [nc] at *))
    all_goals first
      | omega
      | (unfold InR; omega)
      | exact ⟨trivial, trivial⟩
      | (have e1 := hsk (by omega)
         have e2 : (⟨⟨[33]⟩⟩ : ByteArray).size = 1 := rfl
         show (l.getD k Dat.d0).size + _ ≤ _
         omega)
      | (refine ⟨⟨k + 1, by omega, l.set k (l.getD k Dat.d0 ++ ⟨⟨[33]⟩⟩), by rw [List.length_set]; exact hl, fun i h1 h2 => by rw [gd_set _ _ _ _ _ (by omega), show decide (i = k) = false from decide_eq_false (by omega)]; exact hs i (by omega) h2⟩, ?_, ?_, rfl, by (try dsimp only); omega⟩
         · cbv
           repeat' first | (refine Stp.mk ?_; cbv) | (refine Gen.mk fun r hr => ?_; (try simp only [Dat.ok, Dat.dec, Leaf.ok, Leaf.val, Fence.eta, Try.eta, Gate.eta, Give.eta, GateOp.eta, GateAns.eta, val_sl, val_nil] at hr); cbv) | exact trivial | rfl | refine Both.mk ?_ ?_ | (refine Imp.mk fun h => ?_; (try dsimp only at h); (try simp only [nc, Int.toNat_natCast, Bool.not_eq_true', Bool.not_eq_false', decide_eq_true_eq, decide_eq_false_iff_not, beq_iff_eq, beq_eq_false_iff_ne, ba_inj, bne_iff_ne, ne_eq, Bool.and_eq_true, Bool.or_eq_true, Bool.and_eq_false_iff, Bool.or_eq_false_iff, Int.not_le, Int.not_lt, Nat.not_le, Nat.not_lt] at h); (try simp only [nc] at h)) | refine Ob.mk ?_ ?_ | refine Chk.mk (by kernel_rfl) ?_ | refine Eq'.mk ?_ | (refine AllN.mk fun i hi => ?_; cbv) | (refine AllC.mk fun c hc hcm => ?_; (try dsimp only at hc); cbv) | (refine AllS.mk fun r hr => ?_; (try simp only [Dat.ok, Dat.dec, Leaf.ok, Leaf.val, Fence.eta, Try.eta, Gate.eta, Give.eta, GateOp.eta, GateAns.eta, val_sl] at hr); cbv)
         · cbv
           repeat' first | (refine Stp.mk ?_; cbv) | (refine Gen.mk fun r hr => ?_; (try simp only [Dat.ok, Dat.dec, Leaf.ok, Leaf.val, Fence.eta, Try.eta, Gate.eta, Give.eta, GateOp.eta, GateAns.eta, val_sl, val_nil] at hr); cbv) | exact trivial | rfl | refine Both.mk ?_ ?_ | (refine Imp.mk fun h => ?_; (try dsimp only at h); (try simp only [nc, Int.toNat_natCast, Bool.not_eq_true', Bool.not_eq_false', decide_eq_true_eq, decide_eq_false_iff_not, beq_iff_eq, beq_eq_false_iff_ne, ba_inj, bne_iff_ne, ne_eq, Bool.and_eq_true, Bool.or_eq_true, Bool.and_eq_false_iff, Bool.or_eq_false_iff, Int.not_le, Int.not_lt, Nat.not_le, Nat.not_lt] at h); (try simp only [nc] at h)) | refine Ob.mk ?_ ?_ | refine Chk.mk (by kernel_rfl) ?_ | refine Eq'.mk ?_ | (refine AllN.mk fun i hi => ?_; cbv) | (refine AllC.mk fun c hc hcm => ?_; (try dsimp only at hc); cbv) | (refine AllS.mk fun r hr => ?_; (try simp only [Dat.ok, Dat.dec, Leaf.ok, Leaf.val, Fence.eta, Try.eta, Gate.eta, Give.eta, GateOp.eta, GateAns.eta, val_sl] at hr); cbv)
           all_goals ((try dsimp only at *); (try simp only [nc, Int.toNat_natCast, Bool.not_eq_true', Bool.not_eq_false', decide_eq_true_eq, decide_eq_false_iff_not, beq_iff_eq, beq_eq_false_iff_ne, ba_inj, bne_iff_ne, ne_eq, Bool.and_eq_true, Bool.or_eq_true, Bool.and_eq_false_iff, Bool.or_eq_false_iff, Int.not_le, Int.not_lt, Nat.not_le, Nat.not_lt] at *); (try simp only [nc] at *))
           all_goals first
             | exact (List.length_set ..).symm
             | (show _ = (l.set k _).getD i Dat.d0
                rw [gd_set _ _ _ _ _ (by omega)]))
      | (simp only [Dat.dec, Leaf.val, Fence.eta, Try.eta, Gate.eta, Give.eta, GateOp.eta, GateAns.eta, val_sl]
         first
           | exact ⟨⟨rfl, fun i _ => Dat.hok _⟩, ⟨rfl, fun i _ => Dat.hok _⟩, show g.out.length ≤ _ by omega⟩
           | (refine fin ?_; exact heq))
      | (exfalso
         rename (eqStr_S _ _ = false) => z1
         simp only [Dat.dec, Leaf.val, Fence.eta, Try.eta, Gate.eta, Give.eta, GateOp.eta, GateAns.eta, val_sl] at z1
         rw [heq] at z1
         cases z1)
      | skip
  all_goals fail
section
open Go.ChangeShapes Go.WideShapes Go.ChangeAt Go.RowKit Go.Joins Go.Deep
set_option linter.unusedVariables false
theorem gown_own : ownKnob Try.prog.godebug = none := by kernel_rfl
theorem gown_laidOut : laidOutB Try.prog = true := by kernel_rfl
theorem gown_readOk {ts : Array TypeId} (h : ts.toList.all (fun t => Try.prog.readableRec t && decide (t < Try.prog.types.size)) = true) : ∀ t ∈ ts.toList, Try.prog.readableRec t = true ∧ t < Try.prog.types.size := fun t ht => by
  have := List.all_eq_true.1 h t ht
  simpa using this
mutual
theorem gown_bD {H : Type} : ∀ d : DataW H, Rows.uptoBulk d = bulkD d
  | .lit l => by cases l <;> simp [Rows.uptoBulk, bulkD]
  | .nil => by simp [Rows.uptoBulk, bulkD]
  | .ptr d => by simp [Rows.uptoBulk, bulkD, gown_bD d]
  | .slice a b => by simp [Rows.uptoBulk, bulkD, gown_bL a, gown_bL b]
  | .agg a => by simp [Rows.uptoBulk, bulkD, gown_bL a]
  | .iface _ d => by simp [Rows.uptoBulk, bulkD, gown_bD d]
  | .map e => by simp [Rows.uptoBulk, bulkD, gown_bE e]
  | .held _ => by simp [Rows.uptoBulk, bulkD]
theorem gown_bL {H : Type} : ∀ d : List (DataW H), Rows.uptoBulkAll d = bulkL d
  | [] => by simp [Rows.uptoBulkAll, bulkL]
  | d :: r => by simp [Rows.uptoBulkAll, bulkL, gown_bD d, gown_bL r]
theorem gown_bE {H : Type} : ∀ d : List (Lit × DataW H), Rows.uptoBulkEntries d = bulkE d
  | [] => by simp [Rows.uptoBulkEntries, bulkE]
  | d :: r => by simp [Rows.uptoBulkEntries, bulkE, gown_bX d, gown_bE r]
theorem gown_bX {H : Type} : ∀ d : Lit × DataW H, Rows.uptoBulkEntry d = bulkX d
  | (l, d) => by cases l <;> simp [Rows.uptoBulkEntry, bulkX, gown_bD d]
end
set_option maxRecDepth 100000 in
theorem gown_lifted (os : Os) (started : os.Started) (H : Type) (enc : TypeId × Value → H) (F : Stop.Interp) :
    ReturnsInHanded {} Try.checked os 11 .any ((Rows.OpenSpec.upto Rows.gateOwnSpec).pre6 enc Try.prog Try.f11 Rows.gateOwnUptoRow.domain false) (((Rows.OpenSpec.upto Rows.gateOwnSpec).at F).post enc Try.prog Try.f11 false true false false) := by
  refine returnsInHanded_of_cond (C := Try.checked) (s := Rows.OpenSpec.upto Rows.gateOwnSpec) (k := Rows.uptoSmall) rfl gown_own started (by kernel_rfl) Try.func11
    (OpenSpec.witness (enc := enc) (C := Try.checked) (s := Rows.OpenSpec.upto Rows.gateOwnSpec) (k := Rows.uptoSmall) rfl false ⟨#[], #[.agg #[.int .i64 0, .int .i64 0, .slice none 0 0], .agg #[.int .i64 0, .int .i64 0, .int .i64 0, .string .empty]], []⟩ 8 (by kernel_rfl) (by kernel_rfl) (by kernel_rfl)
      (x := ([.agg [.agg [.lit (.int .i64 0), .lit (.int .i64 0)], .nil], .agg [.lit (.int .i64 0), .lit (.int .i64 0), .lit (.int .i64 0), .lit (.string [])]], [], [])) (by kernel_rfl) rfl (by kernel_rfl)) ?_
  intro W base args ds gs before hval0 hW _ hk _
  show Calls Try.prog 11 args W fun e W' => ∃ v, e = .returned v ∧ Rows.gateOwnSpec.post enc Try.prog Try.f11 false true false false W args v W'
  have hval : ∀ (j : Nat) t v, Try.f11.params[j]? = some t → args[j]? = some v → Value.okWide Try.prog W .any base t v := hval0
  have hW' := hW
  have hlt := hW.lt
  obtain ⟨p, q, hA0, hV, rfl, hfz, hnd⟩ := hW
  have hA : DataW.TrodAll enc Try.prog W 0 (fun _ => true) true Try.f11.params.toList args.toList ds p := hA0
  have hA1 := hA
  rw [Try.params11] at hA hval
  obtain ⟨v0, vs0, d0, ds0, p0, q0, hargs, rfl, rfl, h0, r0⟩ := trodAll_cons hA
  obtain ⟨v1, vs1, d1, ds1, p1, q1, rfl, rfl, rfl, h1, r1⟩ := trodAll_cons r0
  obtain ⟨rfl, rfl, rfl⟩ := trodAll_nil r1
  obtain rfl : args = #[v0, v1] := by cases args; simp_all
  obtain ⟨rfl, rfl⟩ := trodVars_none hV
  obtain ⟨cs0, rfl, _⟩ := okWide_struct Try.underlying46 (hval 0 46 v0 rfl rfl)
  obtain ⟨y0, u0, b0, e0⟩ := arg_agg (α := Gate) opn_Gate h0
  obtain ⟨cs1, rfl, _⟩ := okWide_struct Try.underlying51 (hval 1 51 v1 rfl rfl)
  obtain ⟨y1, u1, b1, e1⟩ := arg_agg (α := Give) opn_Give h1
  have hB : Siz.bulk y0 + Siz.bulk y1 ≤ 1048576 := by
    have h := of_decide_eq_true hk
    rw [gown_bL] at h
    simp only [List.append_nil, bulkL] at h
    omega
  have hR := repL_cons (M := fun _ => False) (β := fun _ => none) (cp := fun _ => 0) (.c e0) (repL_cons (M := fun _ => False) (β := fun _ => none) (cp := fun _ => 0) (.c e1) (repL_nil))
  refine (law_callsA (gown_vc y0 y1 u0 u1 hB) hR).mono fun e W' ⟨he, bel⟩ => ?_
  subst he
  exact ⟨_, rfl, _, _, _, [], _, [], hW', trodAll_mk1 (shut_bool Try.underlying4 _), trodAll_below gown_laidOut bel (gown_readOk (by kernel_rfl)) (fun x hx => hlt x (List.mem_append_left _ hx)) hA1, rfl, bel.frame _, fun h => by cases h⟩
theorem GateOwn_proved : Rows.GateOwnUptoSaid :=
  OpenClaim.holds_of_cond 11 Try.f11 rfl rfl rfl rfl rfl rfl rfl ⟨rfl, rfl, rfl, rfl, rfl⟩ rfl rfl rfl rfl rfl (by kernel_rfl) Try.func11 (by kernel_rfl)
    (of_decide_eq_true (by kernel_rfl)) (by unfold Func.isWrapper; first | (rw [if_pos (by decide +kernel)]; kernel_rfl) | (rw [if_neg (by decide +kernel)]; exact ⟨rfl, rfl⟩))
    (fun os started H enc _ F => gown_lifted os started H enc F)
end

end Go.Proofs.Ytpooooomhnehfaa
