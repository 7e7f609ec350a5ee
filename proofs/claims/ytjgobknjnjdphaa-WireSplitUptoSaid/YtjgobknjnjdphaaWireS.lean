/- Messages, one behind the other. -/
import Derived.Test.YtjgobknjnjdphaaWireP
set_option linter.all false
namespace Go.Proofs.Ytjgobknjnjdphaa
open Go Go.Abs

def splitR (s : ByteArray) : Nat → Nat → List Msg → List Msg × Int × Int
  | 0, at', l => (l, at', 0)
  | f + 1, at', l =>
    if (longV (s.extract at' s.size)).2 = false then (l, at', 0)
    else if ¬ (readV (s.extract at' (at' + (longV (s.extract at' s.size)).1.toNat))).2 = 0 then (l, at', (readV (s.extract at' (at' + (longV (s.extract at' s.size)).1.toNat))).2)
    else splitR s f (at' + (longV (s.extract at' s.size)).1.toNat) (l ++ [(readV (s.extract at' (at' + (longV (s.extract at' s.size)).1.toNat))).1])
def splitV (s : ByteArray) : List Msg × Int × Int := if 100000 < s.size then ([], 0, 2) else splitR s (s.size + 1) 0 []
structure SpX (s : ByteArray) where
  p : Nat
  l : List Msg
  f : Nat
  hp : p ≤ s.size
  hf : s.size < p + f
  hr : splitR s (s.size + 1) 0 [] = splitR s f p l
  hl : l.length ≤ p
theorem byte_sz (s : ByteArray) (p k : Nat) : (s.extract p k).size = min k s.size - p := by rw [extract_size]
theorem long_bd {s : ByteArray} (h : (longV s).2 = true) : 2 ≤ (longV s).1 ∧ (longV s).1 ≤ s.size := by
  have hb := numR2_bd s
  unfold longV at h ⊢
  split at h
  · cases h
  · rename_i h2
    rw [if_neg h2]
    simp only [decide_eq_true_eq] at h
    exact ⟨by show 2 ≤ 2 + _; omega, h⟩
def wsplit_R (r : Th ((List Msg) × Int × Int)) : AV := .tup [.own 0 fun _ => (r ()).1.length, .i .i64 fun _ => (r ()).2.1, .i .i64 fun _ => (r ()).2.2]
def wsplit_H (r : Th ((List Msg) × Int × Int)) : Hp := [vecO 23 fun _ => (r ()).1]
def wsplit_C : PC := fun A K => match A with
  | [.s s] => Ob (fun _ => True) (Gen (α := (List Msg) × Int × Int) (fun _ => splitV (s ())) fun r => K (wsplit_R fun _ => r) (wsplit_H fun _ => r))
  | _ => Bad 1002
noncomputable def cSP : FuncId → Con := fun f => match f with
  | 34 => pureCon (detPC wlong_D)
  | 13 => pureCon (detPC wread_D)
  | _ => fun _ _ _ => Bad 1001
theorem cSP_ok : ConOk Try.prog cSP := fun f A H K h => by
  unfold cSP at h
  split at h
  · exact ⟨⟨Try.f34, Try.func34, by kernel_rfl, by kernel_rfl⟩, pureCon_ok wlong_ok h⟩
  · exact ⟨⟨Try.f13, Try.func13, by kernel_rfl, by kernel_rfl⟩, pureCon_ok wread_ok h⟩
  · cases h
def dSP : FuncId → Option Dt := fun f => match f with
  | 34 => some (.c wlong_D)
  | 13 => some (.c wread_D)
  | _ => none
theorem dSP_ok : DetOk Try.prog dSP := fun f d h => by
  unfold dSP at h
  split at h
  · cases h; exact ⟨⟨Try.f34, Try.func34, by kernel_rfl, by kernel_rfl⟩, wlong_ok⟩
  · cases h; exact ⟨⟨Try.f13, Try.func13, by kernel_rfl, by kernel_rfl⟩, wread_ok⟩
  · cases h
set_option maxRecDepth 100000 in
set_option maxHeartbeats 4000000 in
theorem wsplit_vc (s : ByteArray) : FnOk Try.prog 16 [.s fun _ => s] [] (outA (wsplit_R fun _ => splitV s) (wsplit_H fun _ => splitV s)) := by
  refine fn_ok envOk zl cSP_ok (draws_ok envOk zl dSP_ok mixed) (keep := [0, 2, 3, 4, 5, 6, 7, 8, 9, 10, 13, 22, 36]) Try.func16 rfl ?_
  have fin : ∀ l (p : Int) e kl H, splitV s = (l, p, e) → outA (wsplit_R fun _ => splitV s) (wsplit_H fun _ => splitV s) (.tup [.own 0 fun _ => l.length, .i .i64 fun _ => p, .i .i64 fun _ => e]) (vecO 23 (fun _ => l) :: H) kl := fun l p e kl H h => by
    rw [h]
    cbv
    repeat' first | (refine Stp.mk ?_; cbv) | (refine Gen.mk fun r hr => ?_; (try simp only [Dat.ok, Dat.dec, Leaf.ok, Leaf.val, Ins.eta, Vm.eta, Emit.eta, Msg.eta, val_sl, val_nil] at hr); cbv) | exact trivial | rfl | refine Both.mk ?_ ?_ | (refine Imp.mk fun h => ?_; (try dsimp only at h); (try simp only [nc, Int.toNat_natCast, Bool.not_eq_true', Bool.not_eq_false', decide_eq_true_eq, decide_eq_false_iff_not, beq_iff_eq, beq_eq_false_iff_ne, ba_inj, bne_iff_ne, ne_eq, Bool.and_eq_true, Bool.or_eq_true, Bool.and_eq_false_iff, Bool.or_eq_false_iff, Int.not_le, Int.not_lt, Nat.not_le, Nat.not_lt] at h); (try simp only [nc] at h)) | refine Ob.mk ?_ ?_ | refine Chk.mk (by kernel_rfl) ?_ | refine Eq'.mk ?_ | (refine AllN.mk fun i hi => ?_; cbv) | (refine AllS.mk fun r hr => ?_; (try simp only [Dat.ok, Dat.dec, Leaf.ok, Leaf.val, Ins.eta, Vm.eta, Emit.eta, Msg.eta, val_sl] at hr); cbv)
  have fin0 : ∀ (p : Int) e kl H, splitV s = ([], p, e) → outA (wsplit_R fun _ => splitV s) (wsplit_H fun _ => splitV s) (.tup [.nil, .i .i64 fun _ => p, .i .i64 fun _ => e]) H kl := fun p e kl H h => by
    rw [h]
    cbv
    repeat' first | (refine Stp.mk ?_; cbv) | (refine Gen.mk fun r hr => ?_; (try simp only [Dat.ok, Dat.dec, Leaf.ok, Leaf.val, Ins.eta, Vm.eta, Emit.eta, Msg.eta, val_sl, val_nil] at hr); cbv) | exact trivial | rfl | refine Both.mk ?_ ?_ | (refine Imp.mk fun h => ?_; (try dsimp only at h); (try simp only [nc, Int.toNat_natCast, Bool.not_eq_true', Bool.not_eq_false', decide_eq_true_eq, decide_eq_false_iff_not, beq_iff_eq, beq_eq_false_iff_ne, ba_inj, bne_iff_ne, ne_eq, Bool.and_eq_true, Bool.or_eq_true, Bool.and_eq_false_iff, Bool.or_eq_false_iff, Int.not_le, Int.not_lt, Nat.not_le, Nat.not_lt] at h); (try simp only [nc] at h)) | refine Ob.mk ?_ ?_ | refine Chk.mk (by kernel_rfl) ?_ | refine Eq'.mk ?_ | (refine AllN.mk fun i hi => ?_; cbv) | (refine AllS.mk fun r hr => ?_; (try simp only [Dat.ok, Dat.dec, Leaf.ok, Leaf.val, Ins.eta, Vm.eta, Emit.eta, Msg.eta, val_sl] at hr); cbv)
    all_goals first | rfl | (exfalso; omega)
  generalize outA (wsplit_R fun _ => splitV s) (wsplit_H fun _ => splitV s) = K at fin fin0 ⊢
  cbv
  repeat' first | (show Stp _; exfalso; first | omega | (exact h ‹_›) | (exact absurd ‹_› h) | (exact Bool.false_ne_true (h.symm.trans (show _ = true by assumption)))) | (refine Stp.mk ?_; cbv) | (refine Gen.mk fun r hr => ?_; (try simp only [Dat.ok, Dat.dec, Leaf.ok, Leaf.val, Ins.eta, Vm.eta, Emit.eta, Msg.eta, val_sl, val_nil] at hr); cbv) | exact trivial | rfl | refine Both.mk ?_ ?_ | (refine Imp.mk fun h => ?_; (try dsimp only at h); (try simp only [nc, Int.toNat_natCast, Bool.not_eq_true', Bool.not_eq_false', decide_eq_true_eq, decide_eq_false_iff_not, beq_iff_eq, beq_eq_false_iff_ne, ba_inj, bne_iff_ne, ne_eq, Bool.and_eq_true, Bool.or_eq_true, Bool.and_eq_false_iff, Bool.or_eq_false_iff, Int.not_le, Int.not_lt, Nat.not_le, Nat.not_lt] at h); (try simp only [nc] at h)) | refine Ob.mk ?_ ?_ | refine Chk.mk (by kernel_rfl) ?_ | refine Eq'.mk ?_ | (refine AllN.mk fun i hi => ?_; cbv) | (refine AllS.mk fun r hr => ?_; (try simp only [Dat.ok, Dat.dec, Leaf.ok, Leaf.val, Ins.eta, Vm.eta, Emit.eta, Msg.eta, val_sl] at hr); cbv)
  all_goals ((try dsimp only at *); (try simp only [nc, Int.toNat_natCast, Bool.not_eq_true', Bool.not_eq_false', decide_eq_true_eq, decide_eq_false_iff_not, beq_iff_eq, beq_eq_false_iff_ne, ba_inj, bne_iff_ne, ne_eq, Bool.and_eq_true, Bool.or_eq_true, Bool.and_eq_false_iff, Bool.or_eq_false_iff, Int.not_le, Int.not_lt, Nat.not_le, Nat.not_lt] at *); (try simp only [nc] at *))
  · exact fin0 _ _ _ _ (by unfold splitV; rw [if_pos (by omega)])
  · refine LoopVC.frame [2, 3, 4, 5, 6, 7, 8, 9, 10, 22, 36] (SpX s) (fun y => [(5, .own 0 fun _ => y.l.length), (6, .i .i64 fun _ => y.p)]) (fun y => [(0, vecO 23 fun _ => y.l)]) [0] (fun y => y.f) ⟨0, [], s.size + 1, Nat.zero_le _, by omega, rfl, Nat.le_refl _⟩ rfl (fun _ => rfl) ?_ ?_ fun ⟨p, l, f, hp, hf, hr, hl⟩ => ?_
    · cbv
      repeat' first | (refine Stp.mk ?_; cbv) | (refine Gen.mk fun r hr => ?_; (try simp only [Dat.ok, Dat.dec, Leaf.ok, Leaf.val, Ins.eta, Vm.eta, Emit.eta, Msg.eta, val_sl, val_nil] at hr); cbv) | exact trivial | rfl | refine Both.mk ?_ ?_ | (refine Imp.mk fun h => ?_; (try dsimp only at h); (try simp only [nc, Int.toNat_natCast, Bool.not_eq_true', Bool.not_eq_false', decide_eq_true_eq, decide_eq_false_iff_not, beq_iff_eq, beq_eq_false_iff_ne, ba_inj, bne_iff_ne, ne_eq, Bool.and_eq_true, Bool.or_eq_true, Bool.and_eq_false_iff, Bool.or_eq_false_iff, Int.not_le, Int.not_lt, Nat.not_le, Nat.not_lt] at h); (try simp only [nc] at h)) | refine Ob.mk ?_ ?_ | refine Chk.mk (by kernel_rfl) ?_ | refine Eq'.mk ?_ | (refine AllN.mk fun i hi => ?_; cbv) | (refine AllS.mk fun r hr => ?_; (try simp only [Dat.ok, Dat.dec, Leaf.ok, Leaf.val, Ins.eta, Vm.eta, Emit.eta, Msg.eta, val_sl] at hr); cbv)
    · cbv
      repeat' first | (refine Stp.mk ?_; cbv) | (refine Gen.mk fun r hr => ?_; (try simp only [Dat.ok, Dat.dec, Leaf.ok, Leaf.val, Ins.eta, Vm.eta, Emit.eta, Msg.eta, val_sl, val_nil] at hr); cbv) | exact trivial | rfl | refine Both.mk ?_ ?_ | (refine Imp.mk fun h => ?_; (try dsimp only at h); (try simp only [nc, Int.toNat_natCast, Bool.not_eq_true', Bool.not_eq_false', decide_eq_true_eq, decide_eq_false_iff_not, beq_iff_eq, beq_eq_false_iff_ne, ba_inj, bne_iff_ne, ne_eq, Bool.and_eq_true, Bool.or_eq_true, Bool.and_eq_false_iff, Bool.or_eq_false_iff, Int.not_le, Int.not_lt, Nat.not_le, Nat.not_lt] at h); (try simp only [nc] at h)) | refine Ob.mk ?_ ?_ | refine Chk.mk (by kernel_rfl) ?_ | refine Eq'.mk ?_ | (refine AllN.mk fun i hi => ?_; cbv) | (refine AllS.mk fun r hr => ?_; (try simp only [Dat.ok, Dat.dec, Leaf.ok, Leaf.val, Ins.eta, Vm.eta, Emit.eta, Msg.eta, val_sl] at hr); cbv)
    · cbv
      repeat' first | (show Stp _; exfalso; first | omega | (exact h ‹_›) | (exact absurd ‹_› h) | (exact Bool.false_ne_true (h.symm.trans (show _ = true by assumption)))) | (refine Stp.mk ?_; cbv) | (refine Gen.mk fun r hr => ?_; (try simp only [Dat.ok, Dat.dec, Leaf.ok, Leaf.val, Ins.eta, Vm.eta, Emit.eta, Msg.eta, val_sl, val_nil] at hr); cbv) | exact trivial | rfl | refine Both.mk ?_ ?_ | (refine Imp.mk fun h => ?_; (try dsimp only at h); (try simp only [nc, Int.toNat_natCast, Bool.not_eq_true', Bool.not_eq_false', decide_eq_true_eq, decide_eq_false_iff_not, beq_iff_eq, beq_eq_false_iff_ne, ba_inj, bne_iff_ne, ne_eq, Bool.and_eq_true, Bool.or_eq_true, Bool.and_eq_false_iff, Bool.or_eq_false_iff, Int.not_le, Int.not_lt, Nat.not_le, Nat.not_lt] at h); (try simp only [nc] at h)) | refine Ob.mk ?_ ?_ | refine Chk.mk (by kernel_rfl) ?_ | refine Eq'.mk ?_ | (refine AllN.mk fun i hi => ?_; cbv) | (refine AllS.mk fun r hr => ?_; (try simp only [Dat.ok, Dat.dec, Leaf.ok, Leaf.val, Ins.eta, Vm.eta, Emit.eta, Msg.eta, val_sl] at hr); cbv)
      all_goals ((try dsimp only at *); (try simp only [nc, Int.toNat_natCast, Bool.not_eq_true', Bool.not_eq_false', decide_eq_true_eq, decide_eq_false_iff_not, beq_iff_eq, beq_eq_false_iff_ne, ba_inj, bne_iff_ne, ne_eq, Bool.and_eq_true, Bool.or_eq_true, Bool.and_eq_false_iff, Bool.or_eq_false_iff, Int.not_le, Int.not_lt, Nat.not_le, Nat.not_lt] at *); (try simp only [nc] at *))
      all_goals have hs : ¬ 100000 < s.size := by omega
      all_goals try have hlb := long_bd (by assumption)
      all_goals try have hlb2 := (byte_sz s p s.size)
      all_goals try have hN : ((p : Int) + (longV (s.extract p s.size)).1).toNat = p + (longV (s.extract p s.size)).1.toNat := by omega
      all_goals try (have h := h; rw [hN] at h)
      all_goals try rw [hN]
      all_goals obtain ⟨g, rfl⟩ : ∃ g, f = g + 1 := ⟨f - 1, by omega⟩
      all_goals first
        | omega
        | (unfold InR; omega)
        | (show (ByteArray.extract _ _ _).size ≤ 1099511627776; rw [extract_size]; omega)
        | (refine fin _ _ _ _ _ ?_
           unfold splitV; rw [if_neg hs, hr, splitR]
           first
             | (rw [if_pos (by assumption)]; done)
             | (rw [if_neg (by simp [*]), if_pos (by assumption)]; done))
        | (refine ⟨⟨p + (longV (s.extract p s.size)).1.toNat, l ++ [(readV (s.extract p (p + (longV (s.extract p s.size)).1.toNat))).1], g, by omega, by omega, by rw [hr, splitR, if_neg (by simp [*]), if_neg (by simp [*])], by rw [List.length_append]; show l.length + 1 ≤ _; omega⟩, ?_, ?_, rfl, by (try dsimp only); omega⟩
           · cbv
             repeat' first | (refine Stp.mk ?_; cbv) | (refine Gen.mk fun r hr => ?_; (try simp only [Dat.ok, Dat.dec, Leaf.ok, Leaf.val, Ins.eta, Vm.eta, Emit.eta, Msg.eta, val_sl, val_nil] at hr); cbv) | exact trivial | rfl | refine Both.mk ?_ ?_ | (refine Imp.mk fun h => ?_; (try dsimp only at h); (try simp only [nc, Int.toNat_natCast, Bool.not_eq_true', Bool.not_eq_false', decide_eq_true_eq, decide_eq_false_iff_not, beq_iff_eq, beq_eq_false_iff_ne, ba_inj, bne_iff_ne, ne_eq, Bool.and_eq_true, Bool.or_eq_true, Bool.and_eq_false_iff, Bool.or_eq_false_iff, Int.not_le, Int.not_lt, Nat.not_le, Nat.not_lt] at h); (try simp only [nc] at h)) | refine Ob.mk ?_ ?_ | refine Chk.mk (by kernel_rfl) ?_ | refine Eq'.mk ?_ | (refine AllN.mk fun i hi => ?_; cbv) | (refine AllS.mk fun r hr => ?_; (try simp only [Dat.ok, Dat.dec, Leaf.ok, Leaf.val, Ins.eta, Vm.eta, Emit.eta, Msg.eta, val_sl] at hr); cbv)
             all_goals first
               | (simp; done)
               | omega
               | exact (by omega : (p : Int) + (longV (s.extract p s.size)).1 = ((p + (longV (s.extract p s.size)).1.toNat : Nat) : Int))
               | fail
           · cbv
             repeat' first | (refine Stp.mk ?_; cbv) | (refine Gen.mk fun r hr => ?_; (try simp only [Dat.ok, Dat.dec, Leaf.ok, Leaf.val, Ins.eta, Vm.eta, Emit.eta, Msg.eta, val_sl, val_nil] at hr); cbv) | exact trivial | rfl | refine Both.mk ?_ ?_ | (refine Imp.mk fun h => ?_; (try dsimp only at h); (try simp only [nc, Int.toNat_natCast, Bool.not_eq_true', Bool.not_eq_false', decide_eq_true_eq, decide_eq_false_iff_not, beq_iff_eq, beq_eq_false_iff_ne, ba_inj, bne_iff_ne, ne_eq, Bool.and_eq_true, Bool.or_eq_true, Bool.and_eq_false_iff, Bool.or_eq_false_iff, Int.not_le, Int.not_lt, Nat.not_le, Nat.not_lt] at h); (try simp only [nc] at h)) | refine Ob.mk ?_ ?_ | refine Chk.mk (by kernel_rfl) ?_ | refine Eq'.mk ?_ | (refine AllN.mk fun i hi => ?_; cbv) | (refine AllS.mk fun r hr => ?_; (try simp only [Dat.ok, Dat.dec, Leaf.ok, Leaf.val, Ins.eta, Vm.eta, Emit.eta, Msg.eta, val_sl] at hr); cbv)
             all_goals ((try dsimp only at *); (try simp only [nc, Int.toNat_natCast, Bool.not_eq_true', Bool.not_eq_false', decide_eq_true_eq, decide_eq_false_iff_not, beq_iff_eq, beq_eq_false_iff_ne, ba_inj, bne_iff_ne, ne_eq, Bool.and_eq_true, Bool.or_eq_true, Bool.and_eq_false_iff, Bool.or_eq_false_iff, Int.not_le, Int.not_lt, Nat.not_le, Nat.not_lt] at *); (try simp only [nc] at *))
             all_goals first
               | (rw [gd_snoc _ _ _ _ (by assumption)]; cases decide (i < l.length) <;> rfl)
               | (simp; done)
               | fail)
        | fail
theorem wsplit_ok : PcOk Try.prog 16 (wsplit_C) := fun A K h => by
  unfold wsplit_C at h
  split at h
  · rename_i s
    cases h with
    | mk h1 h2 =>
      refine FnOk.pre ?_ (A' := [.s fun _ => s ()]) (.mk (.mk rfl) (trivial))
      exact FnOk.out (K := fun r H _ => K r H) (wsplit_vc (s ())) rfl h2.out
  · cases h

end Go.Proofs.Ytjgobknjnjdphaa
