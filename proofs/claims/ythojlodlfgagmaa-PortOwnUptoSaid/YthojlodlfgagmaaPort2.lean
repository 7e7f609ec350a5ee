/- port.Read, walked. -/
import Derived.Test.YthojlodlfgagmaaPort
set_option linter.all false
namespace Go.Proofs.Ythojlodlfgagmaa
open Go Go.Abs

def rd1 (p : Port) (now : Int) : Int := if mayV p now = 0 then (if p.texts.length = 0 then 7 else 0) else mayV p now
def rdP (p : Port) : Port := if p.kind = 1 then p else { p with texts := p.texts.drop 1 }
def rdB (p : Port) (now : Int) : Bool := if p.kind = 1 then decide (now - p.at_ ≤ p.fresh) else true
def readV (p : Port) (now : Int) : Port × ByteArray × Bool × Int := if rd1 p now = 0 then (rdP p, p.texts.getD 0 Dat.d0, rdB p now, 0) else (noP, .empty, false, rd1 p now)
theorem drop1_val {l : List ByteArray} (h : 0 < l.length) : slV (α := ByteArray) (.sl 1 (fun _ => ((l.length : Int) - 1).toNat) fun k => Dat.enc fun _ => l.getD (k () + Int.toNat 1) Dat.d0) = l.drop 1 := by
  simp only [slV, Dat.hdec]
  refine lst_eq (d := Dat.d0) (by rw [List.length_drop]; omega) fun i hi => ?_
  rw [gd_drop, Nat.add_comm]; rfl
def read_R (r : Th (Port × ByteArray × Bool × Int)) : AV := .tup [.agg [.i .i64 fun _ => (r ()).1.kind, .i .i64 fun _ => (r ()).1.size, .i .i64 fun _ => (r ()).1.room, .i .i64 fun _ => (r ()).1.fresh, .own 0 fun _ => (r ()).1.texts.length, .i .i64 fun _ => (r ()).1.at_], .s fun _ => (r ()).2.1, .b fun _ => (r ()).2.2.1, .i .i64 fun _ => (r ()).2.2.2]
def read_H (r : Th (Port × ByteArray × Bool × Int)) : Hp := [vecO 9 fun _ => (r ()).1.texts]
def read_P (p : Port) (now : Int) : Prop := p.texts.length ≤ 9223372036854775807
def read_C : PC := fun A K => match A with
  | [.agg p, .i .i64 now] => Ob (fun _ => Dat.ok Port p ∧ read_P (Dat.dec p) (now ())) (Gen (α := Port × ByteArray × Bool × Int) (fun _ => readV (Dat.dec p) (now ())) fun r => K (read_R fun _ => r) (read_H fun _ => r))
  | _ => Bad 1002
noncomputable def cRd : FuncId → Con := fun f => match f with
  | 18 => pureCon (detPC may_D)
  | 12 => pureCon clStr_C
  | 15 => inlCon E noCon noDraws [0, 1, 2, 3, 5, 6, 10] Try.f15
  | 36 => inlCon E noCon (draws E dWq) [0, 1, 2, 6, 7] Try.f36
  | 39 => inlCon E cWq noDraws [0, 1, 6, 7, 8] Try.f39
  | _ => fun _ _ _ => Bad 1001
theorem cRd_ok : ConOk Try.prog cRd := fun f A H K h => by
  unfold cRd at h
  split at h
  · exact ⟨⟨Try.f18, Try.func18, by kernel_rfl, by kernel_rfl⟩, pureCon_ok may_ok h⟩
  · exact ⟨⟨Try.f12, Try.func12, by kernel_rfl, by kernel_rfl⟩, pureCon_ok clStr_ok h⟩
  · exact ⟨⟨Try.f15, Try.func15, by kernel_rfl, by kernel_rfl⟩, inl_ok envOk zl noCon_ok noDraws_ok Try.func15 h⟩
  · exact ⟨⟨Try.f36, Try.func36, by kernel_rfl, by kernel_rfl⟩, inl_ok envOk zl noCon_ok (draws_ok envOk zl dWq_ok mixed) Try.func36 h⟩
  · exact ⟨⟨Try.f39, Try.func39, by kernel_rfl, by kernel_rfl⟩, inl_ok envOk zl cWq_ok noDraws_ok Try.func39 h⟩
  · cases h
set_option maxRecDepth 100000 in
set_option maxHeartbeats 4000000 in
theorem read_vc (p : Port) (now : Int) (hp : read_P p now) : FnOk Try.prog 14 [.agg (Dat.enc fun _ => p), .i .i64 fun _ => now] [] (outA (read_R fun _ => readV p now) (read_H fun _ => readV p now)) := by
  refine fn_ok envOk zl cRd_ok noDraws_ok (keep := [0, 1, 2, 4, 5, 6, 7, 8, 9, 11, 12, 23, 25]) Try.func14 rfl ?_
  have hp' : p.texts.length ≤ 9223372036854775807 := hp
  have fin0 : ∀ (e : Int) kl H, readV p now = (noP, .empty, false, e) → outA (read_R fun _ => readV p now) (read_H fun _ => readV p now) (.tup [.agg [.i .i64 fun _ => 0, .i .i64 fun _ => 0, .i .i64 fun _ => 0, .i .i64 fun _ => 0, .nil, .i .i64 fun _ => 0], .s fun _ => .empty, .bc false, .i .i64 fun _ => e]) H kl := fun e kl H h => by
    rw [h]
    cbv
    repeat' first | (refine Stp.mk ?_; cbv) | (refine Gen.mk fun r hr => ?_; (try simp only [Dat.ok, Dat.dec, Leaf.ok, Leaf.val, Port.eta, PortOp.eta, PortAns.eta, val_sl, val_nil] at hr); cbv) | exact trivial | rfl | refine Both.mk ?_ ?_ | (refine Imp.mk fun h => ?_; (try dsimp only at h); (try simp only [nc, Int.toNat_natCast, Bool.not_eq_true', Bool.not_eq_false', decide_eq_true_eq, decide_eq_false_iff_not, beq_iff_eq, beq_eq_false_iff_ne, ba_inj, bne_iff_ne, ne_eq, Bool.and_eq_true, Bool.or_eq_true, Bool.and_eq_false_iff, Bool.or_eq_false_iff, Int.not_le, Int.not_lt, Nat.not_le, Nat.not_lt] at h); (try simp only [nc] at h)) | refine Ob.mk ?_ ?_ | refine Chk.mk (by kernel_rfl) ?_ | refine Eq'.mk ?_ | (refine AllN.mk fun i hi => ?_; cbv) | (refine AllC.mk fun c hc hcm => ?_; (try dsimp only at hc); cbv) | (refine AllS.mk fun r hr => ?_; (try simp only [Dat.ok, Dat.dec, Leaf.ok, Leaf.val, Port.eta, PortOp.eta, PortAns.eta, val_sl] at hr); cbv)
    all_goals first | rfl | (exfalso; omega)
  generalize hK : outA (read_R fun _ => readV p now) (read_H fun _ => readV p now) = K at fin0 ⊢
  cbv
  repeat' first | (show Stp _; exfalso; first | omega | (exact h ‹_›) | (exact absurd ‹_› h) | (exact Bool.false_ne_true (h.symm.trans (show _ = true by assumption)))) | (refine Stp.mk ?_; cbv) | (refine Gen.mk fun r hr => ?_; (try simp only [Dat.ok, Dat.dec, Leaf.ok, Leaf.val, Port.eta, PortOp.eta, PortAns.eta, val_sl, val_nil] at hr); cbv) | exact trivial | rfl | refine Both.mk ?_ ?_ | (refine Imp.mk fun h => ?_; (try dsimp only at h); (try simp only [nc, Int.toNat_natCast, Bool.not_eq_true', Bool.not_eq_false', decide_eq_true_eq, decide_eq_false_iff_not, beq_iff_eq, beq_eq_false_iff_ne, ba_inj, bne_iff_ne, ne_eq, Bool.and_eq_true, Bool.or_eq_true, Bool.and_eq_false_iff, Bool.or_eq_false_iff, Int.not_le, Int.not_lt, Nat.not_le, Nat.not_lt] at h); (try simp only [nc] at h)) | refine Ob.mk ?_ ?_ | refine Chk.mk (by kernel_rfl) ?_ | refine Eq'.mk ?_ | (refine AllN.mk fun i hi => ?_; cbv) | (refine AllC.mk fun c hc hcm => ?_; (try dsimp only at hc); cbv) | (refine AllS.mk fun r hr => ?_; (try simp only [Dat.ok, Dat.dec, Leaf.ok, Leaf.val, Port.eta, PortOp.eta, PortAns.eta, val_sl] at hr); cbv)
  all_goals ((try dsimp only at *); (try simp only [nc, Int.toNat_natCast, Bool.not_eq_true', Bool.not_eq_false', decide_eq_true_eq, decide_eq_false_iff_not, beq_iff_eq, beq_eq_false_iff_ne, ba_inj, bne_iff_ne, ne_eq, Bool.and_eq_true, Bool.or_eq_true, Bool.and_eq_false_iff, Bool.or_eq_false_iff, Int.not_le, Int.not_lt, Nat.not_le, Nat.not_lt] at *); (try simp only [nc] at *))
  all_goals try simp only [Dat.dec, Leaf.val, Port.eta, PortOp.eta, PortAns.eta, val_sl] at *
  all_goals first
    | exact ⟨⟨trivial, trivial, trivial, trivial, ⟨rfl, fun i _ => Dat.hok _⟩, trivial⟩, hp'⟩
    | exact ⟨⟨rfl, fun i _ => Dat.hok _⟩, show _ ≤ _ by (have hm := may_kind (by assumption : mayV p now = 0); have hkB := pkB_iff.1 hm.1; omega)⟩
    | (have h1 : ¬ mayV p now = 0 := by assumption
       have hw : rd1 p now = mayV p now := by rw [rd1, if_neg h1]
       refine fin0 _ _ _ ?_
       rw [readV, hw, if_neg h1]
       done)
    | (have h1 : mayV p now = 0 := by assumption
       have h2 : (p.texts.length : Int) = 0 := by assumption
       have hw : rd1 p now = 7 := by rw [rd1, if_pos h1, if_pos (by omega)]
       refine fin0 _ _ _ ?_
       rw [readV, hw, if_neg (by decide)]
       done)
    | skip
  all_goals have hm := may_kind (by assumption : mayV p now = 0)
  all_goals have hkB := pkB_iff.1 hm.1
  all_goals try (rename (_ = p.texts) => hq3; subst hq3)
  all_goals first
    | (exfalso; omega)
    | omega
    | exact ⟨by omega, by omega⟩
    | exact ⟨by omega, by omega, by omega⟩
    | (unfold InR; omega)
    | exact Nat.le_of_lt_add_one (by rw [show Int.toNat 1 = 1 from rfl]; omega)
    | skip
  all_goals have hd1 := drop1_val (l := p.texts) (by omega)
  all_goals try (rename (_ = slV _) => hq3; rw [hd1] at hq3; subst hq3)
  all_goals try rw [hd1]
  all_goals have hw : rd1 p now = 0 := (by rw [rd1, if_pos (by assumption), if_neg (by omega)])
  all_goals first
    | exact ⟨⟨rfl, fun i _ => Dat.hok _⟩, show _ ≤ _ by rw [List.length_drop]; omega⟩
    | (have h2 : p.kind = 1 := by assumption
       have hw2 : readV p now = (p, p.texts.getD 0 Dat.d0, decide (now - p.at_ ≤ p.fresh), 0) := by rw [readV, hw, if_pos rfl, rdP, rdB, if_pos h2, if_pos h2]
       rw [← hK, hw2]
       cbv
       repeat' first | (refine Stp.mk ?_; cbv) | (refine Gen.mk fun r hr => ?_; (try simp only [Dat.ok, Dat.dec, Leaf.ok, Leaf.val, Port.eta, PortOp.eta, PortAns.eta, val_sl, val_nil] at hr); cbv) | exact trivial | rfl | refine Both.mk ?_ ?_ | (refine Imp.mk fun h => ?_; (try dsimp only at h); (try simp only [nc, Int.toNat_natCast, Bool.not_eq_true', Bool.not_eq_false', decide_eq_true_eq, decide_eq_false_iff_not, beq_iff_eq, beq_eq_false_iff_ne, ba_inj, bne_iff_ne, ne_eq, Bool.and_eq_true, Bool.or_eq_true, Bool.and_eq_false_iff, Bool.or_eq_false_iff, Int.not_le, Int.not_lt, Nat.not_le, Nat.not_lt] at h); (try simp only [nc] at h)) | refine Ob.mk ?_ ?_ | refine Chk.mk (by kernel_rfl) ?_ | refine Eq'.mk ?_ | (refine AllN.mk fun i hi => ?_; cbv) | (refine AllC.mk fun c hc hcm => ?_; (try dsimp only at hc); cbv) | (refine AllS.mk fun r hr => ?_; (try simp only [Dat.ok, Dat.dec, Leaf.ok, Leaf.val, Port.eta, PortOp.eta, PortAns.eta, val_sl] at hr); cbv)
       all_goals ((try dsimp only at *); (try simp only [nc, Int.toNat_natCast, Bool.not_eq_true', Bool.not_eq_false', decide_eq_true_eq, decide_eq_false_iff_not, beq_iff_eq, beq_eq_false_iff_ne, ba_inj, bne_iff_ne, ne_eq, Bool.and_eq_true, Bool.or_eq_true, Bool.and_eq_false_iff, Bool.or_eq_false_iff, Int.not_le, Int.not_lt, Nat.not_le, Nat.not_lt] at *); (try simp only [nc] at *))
       all_goals first | rfl | fail)
    | (have h2 : ¬ p.kind = 1 := by assumption
       have hw2 : readV p now = ({ p with texts := p.texts.drop 1 }, p.texts.getD 0 Dat.d0, true, 0) := by rw [readV, hw, if_pos rfl, rdP, rdB, if_neg h2, if_neg h2]
       rw [← hK, hw2]
       cbv
       repeat' first | (refine Stp.mk ?_; cbv) | (refine Gen.mk fun r hr => ?_; (try simp only [Dat.ok, Dat.dec, Leaf.ok, Leaf.val, Port.eta, PortOp.eta, PortAns.eta, val_sl, val_nil] at hr); cbv) | exact trivial | rfl | refine Both.mk ?_ ?_ | (refine Imp.mk fun h => ?_; (try dsimp only at h); (try simp only [nc, Int.toNat_natCast, Bool.not_eq_true', Bool.not_eq_false', decide_eq_true_eq, decide_eq_false_iff_not, beq_iff_eq, beq_eq_false_iff_ne, ba_inj, bne_iff_ne, ne_eq, Bool.and_eq_true, Bool.or_eq_true, Bool.and_eq_false_iff, Bool.or_eq_false_iff, Int.not_le, Int.not_lt, Nat.not_le, Nat.not_lt] at h); (try simp only [nc] at h)) | refine Ob.mk ?_ ?_ | refine Chk.mk (by kernel_rfl) ?_ | refine Eq'.mk ?_ | (refine AllN.mk fun i hi => ?_; cbv) | (refine AllC.mk fun c hc hcm => ?_; (try dsimp only at hc); cbv) | (refine AllS.mk fun r hr => ?_; (try simp only [Dat.ok, Dat.dec, Leaf.ok, Leaf.val, Port.eta, PortOp.eta, PortAns.eta, val_sl] at hr); cbv)
       all_goals ((try dsimp only at *); (try simp only [nc, Int.toNat_natCast, Bool.not_eq_true', Bool.not_eq_false', decide_eq_true_eq, decide_eq_false_iff_not, beq_iff_eq, beq_eq_false_iff_ne, ba_inj, bne_iff_ne, ne_eq, Bool.and_eq_true, Bool.or_eq_true, Bool.and_eq_false_iff, Bool.or_eq_false_iff, Int.not_le, Int.not_lt, Nat.not_le, Nat.not_lt] at *); (try simp only [nc] at *))
       all_goals first | rfl | fail)
    | fail
theorem read_ok : PcOk Try.prog 14 (read_C) := fun A K h => by
  unfold read_C at h
  split at h
  · rename_i p now
    cases h with
    | mk h1 h2 =>
      obtain ⟨g0, hp⟩ := h1
      refine FnOk.pre ?_ (A' := [.agg (Dat.enc fun _ => (Dat.dec p : Port)), .i .i64 fun _ => now ()]) (.mk (Dat.hle _ g0) (.mk (.mk (.mk rfl) (.mk rfl)) (trivial)))
      exact FnOk.out (K := fun r H _ => K r H) (read_vc (Dat.dec p) (now ()) hp) rfl h2.out
  · cases h

end Go.Proofs.Ythojlodlfgagmaa
