/- The program's functions, walked: Next. -/
import Derived.Test.YtkpkfkbbkcecmaaHasP
set_option linter.all false
namespace Go.Proofs.Ytkpkfkbbkcecmaa
open Go Go.Abs
def nextV (s : Set) (t : Int) : Int × Int :=
  if checkV s = 0 then (if t < 0 ∨ 1099511627776 < t then (0, 1) else if s.spans.length = 0 then (0, 7) else
    if placeV s.spans (t - (t - t.tmod s.size)) < s.spans.length then ((if t - t.tmod s.size + (s.spans.getD (placeV s.spans (t - (t - t.tmod s.size))).toNat Dat.d0).frm > t then t - t.tmod s.size + (s.spans.getD (placeV s.spans (t - (t - t.tmod s.size))).toNat Dat.d0).frm else t), 0)
    else (t - t.tmod s.size + s.size + (s.spans.getD 0 Dat.d0).frm, 0)) else (0, checkV s)
def nextC_R (r : Th (Int × Int)) : AV := .tup [.i .i64 fun _ => (r ()).1, .i .i64 fun _ => (r ()).2]
def nextC_P (s : Set) (t : Int) : Prop := s.spans.length ≤ 9223372036854775807
def nextC_D : Det := fun A => match A with
  | [.agg s, .i .i64 t] => some (fun _ => Dat.ok Set s ∧ nextC_P (Dat.dec s) (t ()), nextC_R fun _ => nextV (Dat.dec s) (t ()))
  | _ => none
noncomputable def cNx : FuncId → Con := fun f => match f with
  | 17 => pureCon (detPC check_D)
  | 24 => inlCon E noCon noDraws [0, 2] Try.f24
  | 25 => pureCon (detPC placeC_D)
  | _ => fun _ _ _ => Bad 1001
theorem cNx_ok : ConOk Try.prog cNx := fun f A H K h => by
  unfold cNx at h
  split at h
  · exact ⟨⟨Try.f17, Try.func17, by kernel_rfl, by kernel_rfl⟩, pureCon_ok check_ok h⟩
  · exact ⟨⟨Try.f24, Try.func24, by kernel_rfl, by kernel_rfl⟩, inl_ok envOk zl noCon_ok noDraws_ok Try.func24 h⟩
  · exact ⟨⟨Try.f25, Try.func25, by kernel_rfl, by kernel_rfl⟩, pureCon_ok placeC_ok h⟩
  · cases h
set_option maxRecDepth 100000 in
set_option maxHeartbeats 4000000 in
theorem nextC_vc (s : Set) (t : Int) (hp : nextC_P s t) : FnOk Try.prog 12 [.agg (Dat.enc fun _ => s), .i .i64 fun _ => t] [] (outA (nextC_R fun _ => nextV s t) []) := by
  refine fn_ok envOk zl cNx_ok (draws_ok envOk zl noDet_ok mixed) (keep := [0, 1, 2, 4, 5, 6, 7, 8, 12, 16, 20, 36]) Try.func12 rfl ?_
  have hp' : s.spans.length ≤ 9223372036854775807 := hp
  have fin : ∀ a' e H kl, nextV s t = (a', e) → outA (nextC_R fun _ => nextV s t) [] (.tup [.i .i64 fun _ => a', .i .i64 fun _ => e]) H kl := by
    intro a' e H kl h
    cbv
    repeat' first | (refine Stp.mk ?_; cbv) | (refine Gen.mk fun r hr => ?_; (try simp only [Dat.ok, Dat.dec, Leaf.ok, Leaf.val, Span.eta, Set.eta, val_sl, val_nil] at hr); cbv) | exact trivial | rfl | refine Both.mk ?_ ?_ | (refine Imp.mk fun h => ?_; (try dsimp only at h); (try simp only [nc, Int.toNat_natCast, Bool.not_eq_true', Bool.not_eq_false', decide_eq_true_eq, decide_eq_false_iff_not, beq_iff_eq, beq_eq_false_iff_ne, ba_inj, bne_iff_ne, ne_eq, Bool.and_eq_true, Bool.or_eq_true, Bool.and_eq_false_iff, Bool.or_eq_false_iff, Int.not_le, Int.not_lt, Nat.not_le, Nat.not_lt] at h); (try simp only [nc] at h)) | refine Ob.mk ?_ ?_ | refine Chk.mk (by kernel_rfl) ?_ | refine Eq'.mk ?_ | (refine AllN.mk fun i hi => ?_; cbv) | (refine AllC.mk fun c hc hcm => ?_; (try dsimp only at hc); cbv) | (refine AllS.mk fun r hr => ?_; (try simp only [Dat.ok, Dat.dec, Leaf.ok, Leaf.val, Span.eta, Set.eta, val_sl] at hr); cbv)
    all_goals rw [h]
  generalize outA (nextC_R fun _ => nextV s t) [] = K at fin
  cbv
  repeat' first | (refine Stp.mk ?_; cbv) | (refine Gen.mk fun r hr => ?_; (try simp only [Dat.ok, Dat.dec, Leaf.ok, Leaf.val, Span.eta, Set.eta, val_sl, val_nil] at hr); cbv) | exact trivial | rfl | refine Both.mk ?_ ?_ | (refine Imp.mk fun h => ?_; (try dsimp only at h); (try simp only [nc, Int.toNat_natCast, Bool.not_eq_true', Bool.not_eq_false', decide_eq_true_eq, decide_eq_false_iff_not, beq_iff_eq, beq_eq_false_iff_ne, ba_inj, bne_iff_ne, ne_eq, Bool.and_eq_true, Bool.or_eq_true, Bool.and_eq_false_iff, Bool.or_eq_false_iff, Int.not_le, Int.not_lt, Nat.not_le, Nat.not_lt] at h); (try simp only [nc] at h)) | refine Ob.mk ?_ ?_ | refine Chk.mk (by kernel_rfl) ?_ | refine Eq'.mk ?_ | (refine AllN.mk fun i hi => ?_; cbv) | (refine AllC.mk fun c hc hcm => ?_; (try dsimp only at hc); cbv) | (refine AllS.mk fun r hr => ?_; (try simp only [Dat.ok, Dat.dec, Leaf.ok, Leaf.val, Span.eta, Set.eta, val_sl] at hr); cbv)
  all_goals ((try dsimp only at *); (try simp only [nc, Int.toNat_natCast, Bool.not_eq_true', Bool.not_eq_false', decide_eq_true_eq, decide_eq_false_iff_not, beq_iff_eq, beq_eq_false_iff_ne, ba_inj, bne_iff_ne, ne_eq, Bool.and_eq_true, Bool.or_eq_true, Bool.and_eq_false_iff, Bool.or_eq_false_iff, Int.not_le, Int.not_lt, Nat.not_le, Nat.not_lt] at *); (try simp only [nc] at *))
  all_goals try simp only [Dat.ok, Dat.dec, Leaf.ok, Leaf.val, Span.eta, Set.eta, val_sl, placeC_S, Int.toNat_zero] at *
  all_goals try have hR := check_iff.1 (show checkV s = 0 by assumption)
  all_goals try have hl3 := hR.len
  all_goals try have hs1 := hR.s1
  all_goals try have hs2 := hR.s2
  all_goals try have hpp := placeV_bd s.spans (t - (t - t.tmod s.size))
  all_goals try have dm := divmod hR (show 0 ≤ t by omega)
  all_goals first
    | exact ⟨⟨trivial, rfl, fun i _ => Dat.hok _⟩, hp'⟩
    | exact ⟨⟨trivial, rfl, fun i _ => Dat.hok _⟩, show s.spans.length ≤ 1000 by omega⟩
    | omega
    | exact ⟨hpp.1, by assumption⟩
    | (unfold InR; omega)
    | (unfold InR
       have := right_get hR (k := (placeV s.spans (t - (t - t.tmod s.size))).toNat) (by omega)
       omega)
    | (unfold InR
       have := right_get hR (k := 0) (by omega)
       omega)
    | (refine fin _ _ _ _ ?_
       unfold nextV
       first
         | (rw [if_neg (by assumption)]; done)
         | (rw [if_pos (by assumption), if_pos (by omega)]; done)
         | (rw [if_pos (by assumption), if_neg (by omega), if_pos (by omega)]; done)
         | (rw [if_pos (by assumption), if_neg (by omega), if_neg (by omega), if_pos (by omega)]; done)
         | (rw [if_pos (by assumption), if_neg (by omega), if_neg (by omega), if_neg (by omega)]; done))
    | fail
theorem nextC_ok : PcOk Try.prog 12 (detPC nextC_D) := det_okA fun A p r h hp0 => by
  unfold nextC_D at h
  split at h
  · rename_i s t
    cases h
    obtain ⟨g0, hp⟩ := hp0
    exact ⟨rfl, FnOk.pre (A' := [.agg (Dat.enc fun _ => (Dat.dec s : Set)), .i .i64 fun _ => t ()]) (nextC_vc (Dat.dec s) (t ()) hp) (.mk (Dat.hle _ g0) (.mk (.mk (.mk rfl) (.mk rfl)) (trivial)))⟩
  · cases h

end Go.Proofs.Ytkpkfkbbkcecmaa
