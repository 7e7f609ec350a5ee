/- The program's functions, walked: Sort. -/
import Derived.Test.YtkpkfkbbkcecmaaSpanP
import Derived.Test.YtkpkfkbbkcecmaaCmp
set_option linter.all false
namespace Go.Proofs.Ytkpkfkbbkcecmaa
open Go Go.Abs
def ofC_R (r : Th (Int)) : AV := .i .i64 fun _ => (r ())
def ofC_S (a : Span) (b : Span) : Int := cmpV a.frm b.frm
def ofC_D : Det := fun A => match A with
  | [.agg a, .agg b] => some (fun _ => Dat.ok Span a ∧ Dat.ok Span b, ofC_R fun _ => ofC_S (Dat.dec a) (Dat.dec b))
  | _ => none
noncomputable def cC1 : FuncId → Con := fun f => match f with
  | 29 => pureCon (detPC cmpI_D)
  | _ => fun _ _ _ => Bad 1001
theorem cC1_ok : ConOk Try.prog cC1 := fun f A H K h => by
  unfold cC1 at h
  split at h
  · exact ⟨⟨Try.f29, Try.func29, by kernel_rfl, by kernel_rfl⟩, pureCon_ok cmpI_ok h⟩
  · cases h
set_option maxRecDepth 100000 in
set_option maxHeartbeats 4000000 in
theorem ofC_vc (a : Span) (b : Span) : FnOk Try.prog 28 [.agg (Dat.enc fun _ => a), .agg (Dat.enc fun _ => b)] [] (outA (ofC_R fun _ => ofC_S a b) []) := by
  refine fn_ok envOk zl cC1_ok noDraws_ok (keep := [0, 1, 2, 3, 4]) Try.func28 rfl ?_
  cbv
  repeat' first | (refine Stp.mk ?_; cbv) | (refine Gen.mk fun r hr => ?_; (try simp only [Dat.ok, Dat.dec, Leaf.ok, Leaf.val, Span.eta, Set.eta, val_sl, val_nil] at hr); cbv) | exact trivial | rfl | refine Both.mk ?_ ?_ | (refine Imp.mk fun h => ?_; (try dsimp only at h); (try simp only [nc, Int.toNat_natCast, Bool.not_eq_true', Bool.not_eq_false', decide_eq_true_eq, decide_eq_false_iff_not, beq_iff_eq, beq_eq_false_iff_ne, ba_inj, bne_iff_ne, ne_eq, Bool.and_eq_true, Bool.or_eq_true, Bool.and_eq_false_iff, Bool.or_eq_false_iff, Int.not_le, Int.not_lt, Nat.not_le, Nat.not_lt] at h); (try simp only [nc] at h)) | refine Ob.mk ?_ ?_ | refine Chk.mk (by kernel_rfl) ?_ | refine Eq'.mk ?_ | (refine AllN.mk fun i hi => ?_; cbv) | (refine AllC.mk fun c hc hcm => ?_; (try dsimp only at hc); cbv) | (refine AllS.mk fun r hr => ?_; (try simp only [Dat.ok, Dat.dec, Leaf.ok, Leaf.val, Span.eta, Set.eta, val_sl] at hr); cbv)
  all_goals ((try dsimp only at *); (try simp only [nc, Int.toNat_natCast, Bool.not_eq_true', Bool.not_eq_false', decide_eq_true_eq, decide_eq_false_iff_not, beq_iff_eq, beq_eq_false_iff_ne, ba_inj, bne_iff_ne, ne_eq, Bool.and_eq_true, Bool.or_eq_true, Bool.and_eq_false_iff, Bool.or_eq_false_iff, Int.not_le, Int.not_lt, Nat.not_le, Nat.not_lt] at *); (try simp only [nc] at *))
  all_goals first
    | rfl
    | fail
theorem ofC_ok : PcOk Try.prog 28 (detPC ofC_D) := det_okA fun A p r h hp0 => by
  unfold ofC_D at h
  split at h
  · rename_i a b
    cases h
    obtain ⟨g0, g1⟩ := hp0
    exact ⟨rfl, FnOk.pre (A' := [.agg (Dat.enc fun _ => (Dat.dec a : Span)), .agg (Dat.enc fun _ => (Dat.dec b : Span))]) (ofC_vc (Dat.dec a) (Dat.dec b)) (.mk (Dat.hle _ g0) (.mk (Dat.hle _ g1) (trivial)))⟩
  · cases h
def clSp_R (r : Th ((List Span))) : AV := .own 0 fun _ => (r ()).length
def clSp_H (r : Th ((List Span))) : Hp := [vecO 39 fun _ => (r ())]
def clSp_P (l : (List Span)) : Prop := l.length ≤ 1099511627776
def clSp_C : PC := fun A K => match A with
  | [l] => Ob (fun _ => Leaf.ok (List Span) l ∧ clSp_P (Leaf.val l)) (Gen (α := (List Span)) (fun _ => (Leaf.val l)) fun r => K (clSp_R fun _ => r) (clSp_H fun _ => r))
  | _ => Bad 1002
set_option maxRecDepth 100000 in
set_option maxHeartbeats 4000000 in
theorem clSp_vc (l : (List Span)) (hp : clSp_P l) : FnOk Try.prog 15 [Leaf.av fun _ => l] [] (outA (clSp_R fun _ => l) (clSp_H fun _ => l)) := by
  refine fn_ok envOk zl noCon_ok noDraws_ok (keep := [0, 2, 4]) Try.func15 rfl ?_
  have hp' : l.length ≤ 1099511627776 := hp
  cbv
  repeat' first | (refine Stp.mk ?_; cbv) | (refine Gen.mk fun r hr => ?_; (try simp only [Dat.ok, Dat.dec, Leaf.ok, Leaf.val, Span.eta, Set.eta, val_sl, val_nil] at hr); cbv) | exact trivial | rfl | refine Both.mk ?_ ?_ | (refine Imp.mk fun h => ?_; (try dsimp only at h); (try simp only [nc, Int.toNat_natCast, Bool.not_eq_true', Bool.not_eq_false', decide_eq_true_eq, decide_eq_false_iff_not, beq_iff_eq, beq_eq_false_iff_ne, ba_inj, bne_iff_ne, ne_eq, Bool.and_eq_true, Bool.or_eq_true, Bool.and_eq_false_iff, Bool.or_eq_false_iff, Int.not_le, Int.not_lt, Nat.not_le, Nat.not_lt] at h); (try simp only [nc] at h)) | refine Ob.mk ?_ ?_ | refine Chk.mk (by kernel_rfl) ?_ | refine Eq'.mk ?_ | (refine AllN.mk fun i hi => ?_; cbv) | (refine AllC.mk fun c hc hcm => ?_; (try dsimp only at hc); cbv) | (refine AllS.mk fun r hr => ?_; (try simp only [Dat.ok, Dat.dec, Leaf.ok, Leaf.val, Span.eta, Set.eta, val_sl] at hr); cbv)
  all_goals ((try dsimp only at *); (try simp only [nc, Int.toNat_natCast, Bool.not_eq_true', Bool.not_eq_false', decide_eq_true_eq, decide_eq_false_iff_not, beq_iff_eq, beq_eq_false_iff_ne, ba_inj, bne_iff_ne, ne_eq, Bool.and_eq_true, Bool.or_eq_true, Bool.and_eq_false_iff, Bool.or_eq_false_iff, Int.not_le, Int.not_lt, Nat.not_le, Nat.not_lt] at *); (try simp only [nc] at *))
  all_goals first
    | omega
    | (exact ⟨Nat.le_refl _, trivial, by omega, by omega⟩)
    | (simp only [Nat.zero_add, Nat.sub_zero, Nat.not_lt_zero, decide_false, cond_false]; done)
    | (simp_all; done)
    | fail
theorem clSp_ok : PcOk Try.prog 15 (clSp_C) := fun A K h => by
  unfold clSp_C at h
  split at h
  · rename_i l
    cases h with
    | mk h1 h2 =>
      obtain ⟨g0, hp⟩ := h1
      refine FnOk.pre ?_ (A' := [Leaf.av fun _ => (Leaf.val l : (List Span))]) (.mk (Leaf.hle _ g0) (trivial))
      exact FnOk.out (K := fun r H _ => K r H) (clSp_vc (Leaf.val l) hp) rfl h2.out
  · cases h

end Go.Proofs.Ytkpkfkbbkcecmaa
