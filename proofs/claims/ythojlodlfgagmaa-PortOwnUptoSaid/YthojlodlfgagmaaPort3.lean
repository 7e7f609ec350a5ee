/- port.Play, walked. -/
import Derived.Test.YthojlodlfgagmaaPort2
set_option linter.all false
namespace Go.Proofs.Ythojlodlfgagmaa
open Go Go.Abs

def stepP (p : Port) (o : PortOp) : Port × PortAns :=
  if o.kind = 1 then ((writeV p o.text o.now).1, ⟨.empty, false, (writeV p o.text o.now).2⟩) else
  if o.kind = 2 then ((readV p o.now).1, ⟨(readV p o.now).2.1, (readV p o.now).2.2.1, (readV p o.now).2.2.2⟩) else (p, ⟨.empty, false, 1⟩)
def nextP (p : Port) (o : PortOp) : Port := if (stepP p o).2.err = 0 then (stepP p o).1 else p
def runP : Port → List PortOp → Port
  | p, [] => p
  | p, o :: l => runP (nextP p o) l
def ansP : Port → List PortOp → List PortAns
  | _, [] => []
  | p, o :: l => (stepP p o).2 :: ansP (nextP p o) l
def port0 (kind size room fresh : Int) : Port := ⟨kind, size, room, fresh, [], 0⟩
def playP (kind size room fresh : Int) (l : List PortOp) : Port × List PortAns × Int :=
  if pchkV (port0 kind size room fresh) = 0 then (if 500 < l.length then (noP, [], 2) else (runP (port0 kind size room fresh) l, ansP (port0 kind size room fresh) l, 0)) else (noP, [], pchkV (port0 kind size room fresh))
theorem nextP_len {p : Port} {o : PortOp} : (nextP p o).texts.length ≤ p.texts.length + 1 := by
  unfold nextP
  by_cases h : (stepP p o).2.err = 0
  · rw [if_pos h]
    unfold stepP at h ⊢
    by_cases h1 : o.kind = 1
    · simp only [if_pos h1] at h ⊢
      unfold writeV at h ⊢
      by_cases h2 : wr1 p o.text o.now = 0
      · rw [if_pos h2]; unfold wrP
        by_cases h3 : p.kind = 1
        · rw [if_pos h3]; exact Nat.succ_le_succ (Nat.zero_le _)
        · rw [if_neg h3]; exact Nat.le_of_eq List.length_append
      · rw [if_neg h2]; exact Nat.zero_le _
    · simp only [if_neg h1] at h ⊢
      by_cases h2 : o.kind = 2
      · simp only [if_pos h2] at h ⊢
        unfold readV
        by_cases h3 : rd1 p o.now = 0
        · rw [if_pos h3]; unfold rdP
          by_cases h4 : p.kind = 1
          · rw [if_pos h4]; exact Nat.le_succ _
          · rw [if_neg h4]; show (p.texts.drop 1).length ≤ _; rw [List.length_drop]; omega
        · rw [if_neg h3]; exact Nat.zero_le _
      · simp only [if_neg h2]; exact Nat.le_succ _
  · rw [if_neg h]; exact Nat.le_succ _
def play_R (r : Th (Port × (List PortAns) × Int)) : AV := .tup [.agg [.i .i64 fun _ => (r ()).1.kind, .i .i64 fun _ => (r ()).1.size, .i .i64 fun _ => (r ()).1.room, .i .i64 fun _ => (r ()).1.fresh, .own 0 fun _ => (r ()).1.texts.length, .i .i64 fun _ => (r ()).1.at_], .own 1 fun _ => (r ()).2.1.length, .i .i64 fun _ => (r ()).2.2]
def play_H (r : Th (Port × (List PortAns) × Int)) : Hp := [vecO 9 fun _ => (r ()).1.texts, vecO 34 fun _ => (r ()).2.1]
def play_C : PC := fun A K => match A with
  | [.i .i64 kind, .i .i64 size, .i .i64 room, .i .i64 fresh, l] => Ob (fun _ => Leaf.ok (List PortOp) l) (Gen (α := Port × (List PortAns) × Int) (fun _ => playP (kind ()) (size ()) (room ()) (fresh ()) (Leaf.val l)) fun r => K (play_R fun _ => r) (play_H fun _ => r))
  | _ => Bad 1002
structure PoX (p0 : Port) (l : List PortOp) where
  k : Nat
  hk : k ≤ l.length
  g : Port
  out : List PortAns
  hg : g.texts.length ≤ k
  ho : out.length = k
  hrun : runP p0 l = runP g (l.drop k)
  hans : ansP p0 l = out ++ ansP g (l.drop k)
noncomputable def cPl : FuncId → Con := fun f => match f with
  | 11 => pureCon (detPC pchk_D)
  | 13 => pureCon write_C
  | 14 => pureCon read_C
  | _ => fun _ _ _ => Bad 1001
theorem cPl_ok : ConOk Try.prog cPl := fun f A H K h => by
  unfold cPl at h
  split at h
  · exact ⟨⟨Try.f11, Try.func11, by kernel_rfl, by kernel_rfl⟩, pureCon_ok pchk_ok h⟩
  · exact ⟨⟨Try.f13, Try.func13, by kernel_rfl, by kernel_rfl⟩, pureCon_ok write_ok h⟩
  · exact ⟨⟨Try.f14, Try.func14, by kernel_rfl, by kernel_rfl⟩, pureCon_ok read_ok h⟩
  · cases h
set_option maxRecDepth 100000 in
set_option maxHeartbeats 4000000 in
theorem play_vc (kind : Int) (size : Int) (room : Int) (fresh : Int) (l : (List PortOp)) : FnOk Try.prog 7 [.i .i64 fun _ => kind, .i .i64 fun _ => size, .i .i64 fun _ => room, .i .i64 fun _ => fresh, Leaf.av fun _ => l] [] (outA (play_R fun _ => playP kind size room fresh l) (play_H fun _ => playP kind size room fresh l)) := by
  refine fn_ok envOk zl cPl_ok noDraws_ok (keep := [0, 1, 2, 3, 4, 10, 11, 12, 13, 14, 15, 17, 18, 19, 28, 33, 35, 36, 37, 38, 44, 45, 57, 73]) Try.func7 rfl ?_
  have e1 : ¬ pchkV ⟨kind, size, room, fresh, slV .nil, 0⟩ = 0 → playP kind size room fresh l = (noP, [], pchkV ⟨kind, size, room, fresh, slV .nil, 0⟩) := fun h => if_neg h
  have e2 : pchkV ⟨kind, size, room, fresh, slV .nil, 0⟩ = 0 → 500 < l.length → playP kind size room fresh l = (noP, [], 2) := fun h h2 => (if_pos h).trans (if_pos h2)
  have e3 : pchkV ⟨kind, size, room, fresh, slV .nil, 0⟩ = 0 → ¬ 500 < l.length → playP kind size room fresh l = (runP (port0 kind size room fresh) l, ansP (port0 kind size room fresh) l, 0) := fun h h2 => (if_pos h).trans (if_neg h2)
  cbv
  repeat' first | (show Stp _; exfalso; first | omega | (exact h ‹_›) | (exact absurd ‹_› h) | (exact Bool.false_ne_true (h.symm.trans (show _ = true by assumption)))) | (refine Stp.mk ?_; cbv) | (refine Gen.mk fun r hr => ?_; (try simp only [Dat.ok, Dat.dec, Leaf.ok, Leaf.val, Port.eta, PortOp.eta, PortAns.eta, val_sl, val_nil] at hr); cbv) | exact trivial | rfl | refine Both.mk ?_ ?_ | (refine Imp.mk fun h => ?_; (try dsimp only at h); (try simp only [nc, Int.toNat_natCast, Bool.not_eq_true', Bool.not_eq_false', decide_eq_true_eq, decide_eq_false_iff_not, beq_iff_eq, beq_eq_false_iff_ne, ba_inj, bne_iff_ne, ne_eq, Bool.and_eq_true, Bool.or_eq_true, Bool.and_eq_false_iff, Bool.or_eq_false_iff, Int.not_le, Int.not_lt, Nat.not_le, Nat.not_lt] at h); (try simp only [nc] at h)) | refine Ob.mk ?_ ?_ | refine Chk.mk (by kernel_rfl) ?_ | refine Eq'.mk ?_ | (refine AllN.mk fun i hi => ?_; cbv) | (refine AllC.mk fun c hc hcm => ?_; (try dsimp only at hc); cbv) | (refine AllS.mk fun r hr => ?_; (try simp only [Dat.ok, Dat.dec, Leaf.ok, Leaf.val, Port.eta, PortOp.eta, PortAns.eta, val_sl] at hr); cbv)
  all_goals ((try dsimp only at *); (try simp only [nc, Int.toNat_natCast, Bool.not_eq_true', Bool.not_eq_false', decide_eq_true_eq, decide_eq_false_iff_not, beq_iff_eq, beq_eq_false_iff_ne, ba_inj, bne_iff_ne, ne_eq, Bool.and_eq_true, Bool.or_eq_true, Bool.and_eq_false_iff, Bool.or_eq_false_iff, Int.not_le, Int.not_lt, Nat.not_le, Nat.not_lt] at *); (try simp only [nc] at *))
  all_goals try simp only [Dat.dec, Leaf.val, Port.eta, PortOp.eta, PortAns.eta, val_sl] at *
  all_goals first
    | exact absurd hi (Nat.not_lt_zero _)
    | exact ⟨⟨trivial, trivial, trivial, trivial, trivial, trivial⟩, Nat.zero_le _⟩
    | exact ⟨⟨trivial, trivial, trivial, trivial, ⟨rfl, fun i _ => Dat.hok _⟩, trivial⟩, Nat.zero_le _⟩
    | exact ⟨by simp [Dat.ok], Nat.zero_le _⟩
    | (rw [e1 (by assumption)]; done)
    | (rw [e1 (by assumption)]; rfl)
    | (rw [e2 (by assumption) (by omega)]; done)
    | (rw [e2 (by assumption) (by omega)]; rfl)
    | skip
  have e0 := e3 (by assumption) (by omega)
  generalize hp0 : port0 kind size room fresh = p0 at e0
  clear e1 e2 e3
  generalize hK : outA (play_R fun _ => playP kind size room fresh l) (play_H fun _ => playP kind size room fresh l) = K
  refine LoopVC.frameR [15, 17, 18, 19, 37, 38, 44, 45, 57, 73] (PoX p0 l) (fun x => [(37, .i .i64 fun _ => x.k), (15, .own 3 fun _ => x.out.length)]) (fun x => [(1, .blk [.i .i64 fun _ => x.g.kind, .i .i64 fun _ => x.g.size, .i .i64 fun _ => x.g.room, .i .i64 fun _ => x.g.fresh, .own 2 fun _ => x.g.texts.length, .i .i64 fun _ => x.g.at_]), (2, vecO 9 fun _ => x.g.texts), (3, vecO 34 fun _ => x.out)]) (fun x => l.length - x.k)
    ⟨0, Nat.zero_le _, p0, [], by rw [← hp0]; exact Nat.le_refl _, rfl, rfl, rfl⟩ ?_ ?_ fun ⟨k, hk, g, out, hg, ho, hrun, hans⟩ => ?_
  · cbv
    repeat' first | (refine Stp.mk ?_; cbv) | (refine Gen.mk fun r hr => ?_; (try simp only [Dat.ok, Dat.dec, Leaf.ok, Leaf.val, Port.eta, PortOp.eta, PortAns.eta, val_sl, val_nil] at hr); cbv) | exact trivial | rfl | refine Both.mk ?_ ?_ | (refine Imp.mk fun h => ?_; (try dsimp only at h); (try simp only [nc, Int.toNat_natCast, Bool.not_eq_true', Bool.not_eq_false', decide_eq_true_eq, decide_eq_false_iff_not, beq_iff_eq, beq_eq_false_iff_ne, ba_inj, bne_iff_ne, ne_eq, Bool.and_eq_true, Bool.or_eq_true, Bool.and_eq_false_iff, Bool.or_eq_false_iff, Int.not_le, Int.not_lt, Nat.not_le, Nat.not_lt] at h); (try simp only [nc] at h)) | refine Ob.mk ?_ ?_ | refine Chk.mk (by kernel_rfl) ?_ | refine Eq'.mk ?_ | (refine AllN.mk fun i hi => ?_; cbv) | (refine AllC.mk fun c hc hcm => ?_; (try dsimp only at hc); cbv) | (refine AllS.mk fun r hr => ?_; (try simp only [Dat.ok, Dat.dec, Leaf.ok, Leaf.val, Port.eta, PortOp.eta, PortAns.eta, val_sl] at hr); cbv)
  · subst hp0
    cbv
    repeat' first | (refine Stp.mk ?_; cbv) | (refine Gen.mk fun r hr => ?_; (try simp only [Dat.ok, Dat.dec, Leaf.ok, Leaf.val, Port.eta, PortOp.eta, PortAns.eta, val_sl, val_nil] at hr); cbv) | exact trivial | rfl | refine Both.mk ?_ ?_ | (refine Imp.mk fun h => ?_; (try dsimp only at h); (try simp only [nc, Int.toNat_natCast, Bool.not_eq_true', Bool.not_eq_false', decide_eq_true_eq, decide_eq_false_iff_not, beq_iff_eq, beq_eq_false_iff_ne, ba_inj, bne_iff_ne, ne_eq, Bool.and_eq_true, Bool.or_eq_true, Bool.and_eq_false_iff, Bool.or_eq_false_iff, Int.not_le, Int.not_lt, Nat.not_le, Nat.not_lt] at h); (try simp only [nc] at h)) | refine Ob.mk ?_ ?_ | refine Chk.mk (by kernel_rfl) ?_ | refine Eq'.mk ?_ | (refine AllN.mk fun i hi => ?_; cbv) | (refine AllC.mk fun c hc hcm => ?_; (try dsimp only at hc); cbv) | (refine AllS.mk fun r hr => ?_; (try simp only [Dat.ok, Dat.dec, Leaf.ok, Leaf.val, Port.eta, PortOp.eta, PortAns.eta, val_sl] at hr); cbv)
    all_goals fail
  cbv
  repeat' first | (show Stp _; exfalso; first | omega | (exact h ‹_›) | (exact absurd ‹_› h) | (exact Bool.false_ne_true (h.symm.trans (show _ = true by assumption)))) | (refine Stp.mk ?_; cbv) | (refine Gen.mk fun r hr => ?_; (try simp only [Dat.ok, Dat.dec, Leaf.ok, Leaf.val, Port.eta, PortOp.eta, PortAns.eta, val_sl, val_nil] at hr); cbv) | exact trivial | rfl | refine Both.mk ?_ ?_ | (refine Imp.mk fun h => ?_; (try dsimp only at h); (try simp only [nc, Int.toNat_natCast, Bool.not_eq_true', Bool.not_eq_false', decide_eq_true_eq, decide_eq_false_iff_not, beq_iff_eq, beq_eq_false_iff_ne, ba_inj, bne_iff_ne, ne_eq, Bool.and_eq_true, Bool.or_eq_true, Bool.and_eq_false_iff, Bool.or_eq_false_iff, Int.not_le, Int.not_lt, Nat.not_le, Nat.not_lt] at h); (try simp only [nc] at h)) | refine Ob.mk ?_ ?_ | refine Chk.mk (by kernel_rfl) ?_ | refine Eq'.mk ?_ | (refine AllN.mk fun i hi => ?_; cbv) | (refine AllC.mk fun c hc hcm => ?_; (try dsimp only at hc); cbv) | (refine AllS.mk fun r hr => ?_; (try simp only [Dat.ok, Dat.dec, Leaf.ok, Leaf.val, Port.eta, PortOp.eta, PortAns.eta, val_sl] at hr); cbv)
  all_goals ((try dsimp only at *); (try simp only [nc, Int.toNat_natCast, Bool.not_eq_true', Bool.not_eq_false', decide_eq_true_eq, decide_eq_false_iff_not, beq_iff_eq, beq_eq_false_iff_ne, ba_inj, bne_iff_ne, ne_eq, Bool.and_eq_true, Bool.or_eq_true, Bool.and_eq_false_iff, Bool.or_eq_false_iff, Int.not_le, Int.not_lt, Nat.not_le, Nat.not_lt] at *); (try simp only [nc] at *))
  all_goals try simp only [Dat.dec, Leaf.val, Port.eta, PortOp.eta, PortAns.eta, val_sl] at *
  all_goals first
    | omega
    | (unfold InR; omega)
    | exact Nat.le_refl _
    | exact ⟨Nat.le_refl _, Nat.le_refl _, by omega, by omega⟩
    | exact ⟨⟨trivial, trivial, trivial, trivial, ⟨rfl, fun i _ => Dat.hok _⟩, trivial⟩, show g.texts.length ≤ 9223372036854775807 by omega⟩
    | (have ek : (l.getD k Dat.d0).kind = 1 := by assumption
       have es : stepP g (l.getD k Dat.d0) = (r.1, ⟨.empty, false, r.2⟩) := by rw [hr]; exact if_pos ek
       have ee : r.2 = 0 := by assumption
       have e1 : nextP g (l.getD k Dat.d0) = r.1 := by rw [nextP, es]; exact if_pos ee
       refine ⟨⟨k + 1, by omega, nextP g (l.getD k Dat.d0), out ++ [⟨.empty, false, r.2⟩], by have := @nextP_len g (l.getD k Dat.d0); omega, by rw [List.length_append, ho]; rfl, by rw [hrun, drop_cons Dat.d0 (by omega), runP], by rw [hans, drop_cons Dat.d0 (by omega), ansP, es, List.append_assoc]; rfl⟩, [(0, 0), (1, 1), (2, 7), (3, 3)], rfl, rfl, ?_, ?_, by (try dsimp only); omega⟩
       · cbv
         repeat' first | (refine Stp.mk ?_; cbv) | (refine Gen.mk fun r hr => ?_; (try simp only [Dat.ok, Dat.dec, Leaf.ok, Leaf.val, Port.eta, PortOp.eta, PortAns.eta, val_sl, val_nil] at hr); cbv) | exact trivial | rfl | refine Both.mk ?_ ?_ | (refine Imp.mk fun h => ?_; (try dsimp only at h); (try simp only [nc, Int.toNat_natCast, Bool.not_eq_true', Bool.not_eq_false', decide_eq_true_eq, decide_eq_false_iff_not, beq_iff_eq, beq_eq_false_iff_ne, ba_inj, bne_iff_ne, ne_eq, Bool.and_eq_true, Bool.or_eq_true, Bool.and_eq_false_iff, Bool.or_eq_false_iff, Int.not_le, Int.not_lt, Nat.not_le, Nat.not_lt] at h); (try simp only [nc] at h)) | refine Ob.mk ?_ ?_ | refine Chk.mk (by kernel_rfl) ?_ | refine Eq'.mk ?_ | (refine AllN.mk fun i hi => ?_; cbv) | (refine AllC.mk fun c hc hcm => ?_; (try dsimp only at hc); cbv) | (refine AllS.mk fun r hr => ?_; (try simp only [Dat.ok, Dat.dec, Leaf.ok, Leaf.val, Port.eta, PortOp.eta, PortAns.eta, val_sl] at hr); cbv)
         all_goals simp
       · cbv
         repeat' first | (refine Stp.mk ?_; cbv) | (refine Gen.mk fun r hr => ?_; (try simp only [Dat.ok, Dat.dec, Leaf.ok, Leaf.val, Port.eta, PortOp.eta, PortAns.eta, val_sl, val_nil] at hr); cbv) | exact trivial | rfl | refine Both.mk ?_ ?_ | (refine Imp.mk fun h => ?_; (try dsimp only at h); (try simp only [nc, Int.toNat_natCast, Bool.not_eq_true', Bool.not_eq_false', decide_eq_true_eq, decide_eq_false_iff_not, beq_iff_eq, beq_eq_false_iff_ne, ba_inj, bne_iff_ne, ne_eq, Bool.and_eq_true, Bool.or_eq_true, Bool.and_eq_false_iff, Bool.or_eq_false_iff, Int.not_le, Int.not_lt, Nat.not_le, Nat.not_lt] at h); (try simp only [nc] at h)) | refine Ob.mk ?_ ?_ | refine Chk.mk (by kernel_rfl) ?_ | refine Eq'.mk ?_ | (refine AllN.mk fun i hi => ?_; cbv) | (refine AllC.mk fun c hc hcm => ?_; (try dsimp only at hc); cbv) | (refine AllS.mk fun r hr => ?_; (try simp only [Dat.ok, Dat.dec, Leaf.ok, Leaf.val, Port.eta, PortOp.eta, PortAns.eta, val_sl] at hr); cbv)
         all_goals ((try dsimp only at *); (try simp only [nc, Int.toNat_natCast, Bool.not_eq_true', Bool.not_eq_false', decide_eq_true_eq, decide_eq_false_iff_not, beq_iff_eq, beq_eq_false_iff_ne, ba_inj, bne_iff_ne, ne_eq, Bool.and_eq_true, Bool.or_eq_true, Bool.and_eq_false_iff, Bool.or_eq_false_iff, Int.not_le, Int.not_lt, Nat.not_le, Nat.not_lt] at *); (try simp only [nc] at *))
         all_goals first
           | (rw [e1]; done)
           | (rw [gd_snoc _ _ _ _ hi]; cases decide (i < out.length) <;> rfl)
           | (simp; done)
           | fail)
    | (have ek : (l.getD k Dat.d0).kind = 1 := by assumption
       have es : stepP g (l.getD k Dat.d0) = (r.1, ⟨.empty, false, r.2⟩) := by rw [hr]; exact if_pos ek
       have ee : ¬ r.2 = 0 := by assumption
       have e1 : nextP g (l.getD k Dat.d0) = g := by rw [nextP, es]; exact if_neg ee
       refine ⟨⟨k + 1, by omega, nextP g (l.getD k Dat.d0), out ++ [⟨.empty, false, r.2⟩], by have := @nextP_len g (l.getD k Dat.d0); omega, by rw [List.length_append, ho]; rfl, by rw [hrun, drop_cons Dat.d0 (by omega), runP], by rw [hans, drop_cons Dat.d0 (by omega), ansP, es, List.append_assoc]; rfl⟩, [(0, 0), (1, 1), (2, 2), (3, 3)], rfl, rfl, ?_, ?_, by (try dsimp only); omega⟩
       · cbv
         repeat' first | (refine Stp.mk ?_; cbv) | (refine Gen.mk fun r hr => ?_; (try simp only [Dat.ok, Dat.dec, Leaf.ok, Leaf.val, Port.eta, PortOp.eta, PortAns.eta, val_sl, val_nil] at hr); cbv) | exact trivial | rfl | refine Both.mk ?_ ?_ | (refine Imp.mk fun h => ?_; (try dsimp only at h); (try simp only [nc, Int.toNat_natCast, Bool.not_eq_true', Bool.not_eq_false', decide_eq_true_eq, decide_eq_false_iff_not, beq_iff_eq, beq_eq_false_iff_ne, ba_inj, bne_iff_ne, ne_eq, Bool.and_eq_true, Bool.or_eq_true, Bool.and_eq_false_iff, Bool.or_eq_false_iff, Int.not_le, Int.not_lt, Nat.not_le, Nat.not_lt] at h); (try simp only [nc] at h)) | refine Ob.mk ?_ ?_ | refine Chk.mk (by kernel_rfl) ?_ | refine Eq'.mk ?_ | (refine AllN.mk fun i hi => ?_; cbv) | (refine AllC.mk fun c hc hcm => ?_; (try dsimp only at hc); cbv) | (refine AllS.mk fun r hr => ?_; (try simp only [Dat.ok, Dat.dec, Leaf.ok, Leaf.val, Port.eta, PortOp.eta, PortAns.eta, val_sl] at hr); cbv)
         all_goals simp
       · cbv
         repeat' first | (refine Stp.mk ?_; cbv) | (refine Gen.mk fun r hr => ?_; (try simp only [Dat.ok, Dat.dec, Leaf.ok, Leaf.val, Port.eta, PortOp.eta, PortAns.eta, val_sl, val_nil] at hr); cbv) | exact trivial | rfl | refine Both.mk ?_ ?_ | (refine Imp.mk fun h => ?_; (try dsimp only at h); (try simp only [nc, Int.toNat_natCast, Bool.not_eq_true', Bool.not_eq_false', decide_eq_true_eq, decide_eq_false_iff_not, beq_iff_eq, beq_eq_false_iff_ne, ba_inj, bne_iff_ne, ne_eq, Bool.and_eq_true, Bool.or_eq_true, Bool.and_eq_false_iff, Bool.or_eq_false_iff, Int.not_le, Int.not_lt, Nat.not_le, Nat.not_lt] at h); (try simp only [nc] at h)) | refine Ob.mk ?_ ?_ | refine Chk.mk (by kernel_rfl) ?_ | refine Eq'.mk ?_ | (refine AllN.mk fun i hi => ?_; cbv) | (refine AllC.mk fun c hc hcm => ?_; (try dsimp only at hc); cbv) | (refine AllS.mk fun r hr => ?_; (try simp only [Dat.ok, Dat.dec, Leaf.ok, Leaf.val, Port.eta, PortOp.eta, PortAns.eta, val_sl] at hr); cbv)
         all_goals ((try dsimp only at *); (try simp only [nc, Int.toNat_natCast, Bool.not_eq_true', Bool.not_eq_false', decide_eq_true_eq, decide_eq_false_iff_not, beq_iff_eq, beq_eq_false_iff_ne, ba_inj, bne_iff_ne, ne_eq, Bool.and_eq_true, Bool.or_eq_true, Bool.and_eq_false_iff, Bool.or_eq_false_iff, Int.not_le, Int.not_lt, Nat.not_le, Nat.not_lt] at *); (try simp only [nc] at *))
         all_goals first
           | (rw [e1]; done)
           | (rw [gd_snoc _ _ _ _ hi]; cases decide (i < out.length) <;> rfl)
           | (simp; done)
           | fail)
    | (have ek : (l.getD k Dat.d0).kind = 2 := by assumption
       have es : stepP g (l.getD k Dat.d0) = (r.1, ⟨r.2.1, r.2.2.1, r.2.2.2⟩) := by rw [hr]; exact (if_neg (by omega)).trans (if_pos ek)
       have ee : r.2.2.2 = 0 := by assumption
       have e1 : nextP g (l.getD k Dat.d0) = r.1 := by rw [nextP, es]; exact if_pos ee
       refine ⟨⟨k + 1, by omega, nextP g (l.getD k Dat.d0), out ++ [⟨r.2.1, r.2.2.1, r.2.2.2⟩], by have := @nextP_len g (l.getD k Dat.d0); omega, by rw [List.length_append, ho]; rfl, by rw [hrun, drop_cons Dat.d0 (by omega), runP], by rw [hans, drop_cons Dat.d0 (by omega), ansP, es, List.append_assoc]; rfl⟩, [(0, 0), (1, 1), (2, 7), (3, 3)], rfl, rfl, ?_, ?_, by (try dsimp only); omega⟩
       · cbv
         repeat' first | (refine Stp.mk ?_; cbv) | (refine Gen.mk fun r hr => ?_; (try simp only [Dat.ok, Dat.dec, Leaf.ok, Leaf.val, Port.eta, PortOp.eta, PortAns.eta, val_sl, val_nil] at hr); cbv) | exact trivial | rfl | refine Both.mk ?_ ?_ | (refine Imp.mk fun h => ?_; (try dsimp only at h); (try simp only [nc, Int.toNat_natCast, Bool.not_eq_true', Bool.not_eq_false', decide_eq_true_eq, decide_eq_false_iff_not, beq_iff_eq, beq_eq_false_iff_ne, ba_inj, bne_iff_ne, ne_eq, Bool.and_eq_true, Bool.or_eq_true, Bool.and_eq_false_iff, Bool.or_eq_false_iff, Int.not_le, Int.not_lt, Nat.not_le, Nat.not_lt] at h); (try simp only [nc] at h)) | refine Ob.mk ?_ ?_ | refine Chk.mk (by kernel_rfl) ?_ | refine Eq'.mk ?_ | (refine AllN.mk fun i hi => ?_; cbv) | (refine AllC.mk fun c hc hcm => ?_; (try dsimp only at hc); cbv) | (refine AllS.mk fun r hr => ?_; (try simp only [Dat.ok, Dat.dec, Leaf.ok, Leaf.val, Port.eta, PortOp.eta, PortAns.eta, val_sl] at hr); cbv)
         all_goals simp
       · cbv
         repeat' first | (refine Stp.mk ?_; cbv) | (refine Gen.mk fun r hr => ?_; (try simp only [Dat.ok, Dat.dec, Leaf.ok, Leaf.val, Port.eta, PortOp.eta, PortAns.eta, val_sl, val_nil] at hr); cbv) | exact trivial | rfl | refine Both.mk ?_ ?_ | (refine Imp.mk fun h => ?_; (try dsimp only at h); (try simp only [nc, Int.toNat_natCast, Bool.not_eq_true', Bool.not_eq_false', decide_eq_true_eq, decide_eq_false_iff_not, beq_iff_eq, beq_eq_false_iff_ne, ba_inj, bne_iff_ne, ne_eq, Bool.and_eq_true, Bool.or_eq_true, Bool.and_eq_false_iff, Bool.or_eq_false_iff, Int.not_le, Int.not_lt, Nat.not_le, Nat.not_lt] at h); (try simp only [nc] at h)) | refine Ob.mk ?_ ?_ | refine Chk.mk (by kernel_rfl) ?_ | refine Eq'.mk ?_ | (refine AllN.mk fun i hi => ?_; cbv) | (refine AllC.mk fun c hc hcm => ?_; (try dsimp only at hc); cbv) | (refine AllS.mk fun r hr => ?_; (try simp only [Dat.ok, Dat.dec, Leaf.ok, Leaf.val, Port.eta, PortOp.eta, PortAns.eta, val_sl] at hr); cbv)
         all_goals ((try dsimp only at *); (try simp only [nc, Int.toNat_natCast, Bool.not_eq_true', Bool.not_eq_false', decide_eq_true_eq, decide_eq_false_iff_not, beq_iff_eq, beq_eq_false_iff_ne, ba_inj, bne_iff_ne, ne_eq, Bool.and_eq_true, Bool.or_eq_true, Bool.and_eq_false_iff, Bool.or_eq_false_iff, Int.not_le, Int.not_lt, Nat.not_le, Nat.not_lt] at *); (try simp only [nc] at *))
         all_goals first
           | (rw [e1]; done)
           | (rw [gd_snoc _ _ _ _ hi]; cases decide (i < out.length) <;> rfl)
           | (simp; done)
           | fail)
    | (have ek : (l.getD k Dat.d0).kind = 2 := by assumption
       have es : stepP g (l.getD k Dat.d0) = (r.1, ⟨r.2.1, r.2.2.1, r.2.2.2⟩) := by rw [hr]; exact (if_neg (by omega)).trans (if_pos ek)
       have ee : ¬ r.2.2.2 = 0 := by assumption
       have e1 : nextP g (l.getD k Dat.d0) = g := by rw [nextP, es]; exact if_neg ee
       refine ⟨⟨k + 1, by omega, nextP g (l.getD k Dat.d0), out ++ [⟨r.2.1, r.2.2.1, r.2.2.2⟩], by have := @nextP_len g (l.getD k Dat.d0); omega, by rw [List.length_append, ho]; rfl, by rw [hrun, drop_cons Dat.d0 (by omega), runP], by rw [hans, drop_cons Dat.d0 (by omega), ansP, es, List.append_assoc]; rfl⟩, [(0, 0), (1, 1), (2, 2), (3, 3)], rfl, rfl, ?_, ?_, by (try dsimp only); omega⟩
       · cbv
         repeat' first | (refine Stp.mk ?_; cbv) | (refine Gen.mk fun r hr => ?_; (try simp only [Dat.ok, Dat.dec, Leaf.ok, Leaf.val, Port.eta, PortOp.eta, PortAns.eta, val_sl, val_nil] at hr); cbv) | exact trivial | rfl | refine Both.mk ?_ ?_ | (refine Imp.mk fun h => ?_; (try dsimp only at h); (try simp only [nc, Int.toNat_natCast, Bool.not_eq_true', Bool.not_eq_false', decide_eq_true_eq, decide_eq_false_iff_not, beq_iff_eq, beq_eq_false_iff_ne, ba_inj, bne_iff_ne, ne_eq, Bool.and_eq_true, Bool.or_eq_true, Bool.and_eq_false_iff, Bool.or_eq_false_iff, Int.not_le, Int.not_lt, Nat.not_le, Nat.not_lt] at h); (try simp only [nc] at h)) | refine Ob.mk ?_ ?_ | refine Chk.mk (by kernel_rfl) ?_ | refine Eq'.mk ?_ | (refine AllN.mk fun i hi => ?_; cbv) | (refine AllC.mk fun c hc hcm => ?_; (try dsimp only at hc); cbv) | (refine AllS.mk fun r hr => ?_; (try simp only [Dat.ok, Dat.dec, Leaf.ok, Leaf.val, Port.eta, PortOp.eta, PortAns.eta, val_sl] at hr); cbv)
         all_goals simp
       · cbv
         repeat' first | (refine Stp.mk ?_; cbv) | (refine Gen.mk fun r hr => ?_; (try simp only [Dat.ok, Dat.dec, Leaf.ok, Leaf.val, Port.eta, PortOp.eta, PortAns.eta, val_sl, val_nil] at hr); cbv) | exact trivial | rfl | refine Both.mk ?_ ?_ | (refine Imp.mk fun h => ?_; (try dsimp only at h); (try simp only [nc, Int.toNat_natCast, Bool.not_eq_true', Bool.not_eq_false', decide_eq_true_eq, decide_eq_false_iff_not, beq_iff_eq, beq_eq_false_iff_ne, ba_inj, bne_iff_ne, ne_eq, Bool.and_eq_true, Bool.or_eq_true, Bool.and_eq_false_iff, Bool.or_eq_false_iff, Int.not_le, Int.not_lt, Nat.not_le, Nat.not_lt] at h); (try simp only [nc] at h)) | refine Ob.mk ?_ ?_ | refine Chk.mk (by kernel_rfl) ?_ | refine Eq'.mk ?_ | (refine AllN.mk fun i hi => ?_; cbv) | (refine AllC.mk fun c hc hcm => ?_; (try dsimp only at hc); cbv) | (refine AllS.mk fun r hr => ?_; (try simp only [Dat.ok, Dat.dec, Leaf.ok, Leaf.val, Port.eta, PortOp.eta, PortAns.eta, val_sl] at hr); cbv)
         all_goals ((try dsimp only at *); (try simp only [nc, Int.toNat_natCast, Bool.not_eq_true', Bool.not_eq_false', decide_eq_true_eq, decide_eq_false_iff_not, beq_iff_eq, beq_eq_false_iff_ne, ba_inj, bne_iff_ne, ne_eq, Bool.and_eq_true, Bool.or_eq_true, Bool.and_eq_false_iff, Bool.or_eq_false_iff, Int.not_le, Int.not_lt, Nat.not_le, Nat.not_lt] at *); (try simp only [nc] at *))
         all_goals first
           | (rw [e1]; done)
           | (rw [gd_snoc _ _ _ _ hi]; cases decide (i < out.length) <;> rfl)
           | (simp; done)
           | fail)
    | (have ek : ¬ (l.getD k Dat.d0).kind = 1 := by assumption
       have ek2 : ¬ (l.getD k Dat.d0).kind = 2 := by assumption
       have es : stepP g (l.getD k Dat.d0) = (g, ⟨.empty, false, 1⟩) := (if_neg ek).trans (if_neg ek2)
       have e1 : nextP g (l.getD k Dat.d0) = g := by rw [nextP, es]; exact if_neg (show ¬ (1 : Int) = 0 by decide)
       refine ⟨⟨k + 1, by omega, nextP g (l.getD k Dat.d0), out ++ [⟨.empty, false, 1⟩], by have := @nextP_len g (l.getD k Dat.d0); omega, by rw [List.length_append, ho]; rfl, by rw [hrun, drop_cons Dat.d0 (by omega), runP], by rw [hans, drop_cons Dat.d0 (by omega), ansP, es, List.append_assoc]; rfl⟩, [(0, 0), (1, 1), (2, 2), (3, 3)], rfl, rfl, ?_, ?_, by (try dsimp only); omega⟩
       · cbv
         repeat' first | (refine Stp.mk ?_; cbv) | (refine Gen.mk fun r hr => ?_; (try simp only [Dat.ok, Dat.dec, Leaf.ok, Leaf.val, Port.eta, PortOp.eta, PortAns.eta, val_sl, val_nil] at hr); cbv) | exact trivial | rfl | refine Both.mk ?_ ?_ | (refine Imp.mk fun h => ?_; (try dsimp only at h); (try simp only [nc, Int.toNat_natCast, Bool.not_eq_true', Bool.not_eq_false', decide_eq_true_eq, decide_eq_false_iff_not, beq_iff_eq, beq_eq_false_iff_ne, ba_inj, bne_iff_ne, ne_eq, Bool.and_eq_true, Bool.or_eq_true, Bool.and_eq_false_iff, Bool.or_eq_false_iff, Int.not_le, Int.not_lt, Nat.not_le, Nat.not_lt] at h); (try simp only [nc] at h)) | refine Ob.mk ?_ ?_ | refine Chk.mk (by kernel_rfl) ?_ | refine Eq'.mk ?_ | (refine AllN.mk fun i hi => ?_; cbv) | (refine AllC.mk fun c hc hcm => ?_; (try dsimp only at hc); cbv) | (refine AllS.mk fun r hr => ?_; (try simp only [Dat.ok, Dat.dec, Leaf.ok, Leaf.val, Port.eta, PortOp.eta, PortAns.eta, val_sl] at hr); cbv)
         all_goals simp
       · cbv
         repeat' first | (refine Stp.mk ?_; cbv) | (refine Gen.mk fun r hr => ?_; (try simp only [Dat.ok, Dat.dec, Leaf.ok, Leaf.val, Port.eta, PortOp.eta, PortAns.eta, val_sl, val_nil] at hr); cbv) | exact trivial | rfl | refine Both.mk ?_ ?_ | (refine Imp.mk fun h => ?_; (try dsimp only at h); (try simp only [nc, Int.toNat_natCast, Bool.not_eq_true', Bool.not_eq_false', decide_eq_true_eq, decide_eq_false_iff_not, beq_iff_eq, beq_eq_false_iff_ne, ba_inj, bne_iff_ne, ne_eq, Bool.and_eq_true, Bool.or_eq_true, Bool.and_eq_false_iff, Bool.or_eq_false_iff, Int.not_le, Int.not_lt, Nat.not_le, Nat.not_lt] at h); (try simp only [nc] at h)) | refine Ob.mk ?_ ?_ | refine Chk.mk (by kernel_rfl) ?_ | refine Eq'.mk ?_ | (refine AllN.mk fun i hi => ?_; cbv) | (refine AllC.mk fun c hc hcm => ?_; (try dsimp only at hc); cbv) | (refine AllS.mk fun r hr => ?_; (try simp only [Dat.ok, Dat.dec, Leaf.ok, Leaf.val, Port.eta, PortOp.eta, PortAns.eta, val_sl] at hr); cbv)
         all_goals ((try dsimp only at *); (try simp only [nc, Int.toNat_natCast, Bool.not_eq_true', Bool.not_eq_false', decide_eq_true_eq, decide_eq_false_iff_not, beq_iff_eq, beq_eq_false_iff_ne, ba_inj, bne_iff_ne, ne_eq, Bool.and_eq_true, Bool.or_eq_true, Bool.and_eq_false_iff, Bool.or_eq_false_iff, Int.not_le, Int.not_lt, Nat.not_le, Nat.not_lt] at *); (try simp only [nc] at *))
         all_goals first
           | (rw [e1]; done)
           | (rw [gd_snoc _ _ _ _ hi]; cases decide (i < out.length) <;> rfl)
           | (simp; done)
           | fail)
    | (have q1 : runP p0 l = g := by rw [hrun, drop_nil (by omega)]; rfl
       have q2 : ansP p0 l = out := by rw [hans, drop_nil (by omega), ansP, List.append_nil]
       rw [e0, q1, q2])
    | fail
theorem play_ok : PcOk Try.prog 7 (play_C) := fun A K h => by
  unfold play_C at h
  split at h
  · rename_i kind size room fresh l
    cases h with
    | mk h1 h2 =>
      have g0 := h1
      refine FnOk.pre ?_ (A' := [.i .i64 fun _ => kind (), .i .i64 fun _ => size (), .i .i64 fun _ => room (), .i .i64 fun _ => fresh (), Leaf.av fun _ => (Leaf.val l : (List PortOp))]) (.mk (.mk (.mk rfl) (.mk rfl)) (.mk (.mk (.mk rfl) (.mk rfl)) (.mk (.mk (.mk rfl) (.mk rfl)) (.mk (.mk (.mk rfl) (.mk rfl)) (.mk (Leaf.hle _ g0) (trivial))))))
      exact FnOk.out (K := fun r H _ => K r H) (play_vc (kind ()) (size ()) (room ()) (fresh ()) (Leaf.val l)) rfl h2.out
  · cases h

end Go.Proofs.Ythojlodlfgagmaa
