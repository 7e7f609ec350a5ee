/- span.Either: what it tells is its own. -/
import Derived.Test.YtkpkfkbbkcecmaaBoth
set_option linter.all false
namespace Go.Proofs.Ytkpkfkbbkcecmaa
open Go Go.Abs

def eithO_D (a b : Set) : Set × Int := eitherP a b
def eithO_R (r : Th (Set × Int)) : AV := .tup [.agg [.i .i64 fun _ => (r ()).1.size, .own 0 fun _ => (r ()).1.spans.length], .i .i64 fun _ => (r ()).2]
def eithO_H (r : Th (Set × Int)) : Hp := [vecO 39 fun _ => (r ()).1.spans]
def eithO_P (a : Set) (b : Set) : Prop := a.spans.length ≤ 9223372036854775807 ∧ b.spans.length ≤ 9223372036854775807
def eithO_C : PC := fun A K => match A with
  | [.agg a, .agg b] => Ob (fun _ => Dat.ok Set a ∧ Dat.ok Set b ∧ eithO_P (Dat.dec a) (Dat.dec b)) (Gen (α := Set × Int) (fun _ => eithO_D (Dat.dec a) (Dat.dec b)) fun r => K (eithO_R fun _ => r) (eithO_H fun _ => r))
  | _ => Bad 1002
noncomputable def cEO : FuncId → Con := fun f => match f with
  | 30 => pureCon (detPC two_D)
  | 33 => pureCon notC_C
  | 32 => pureCon bothC_C
  | 31 => inlCon E noCon noDraws [0, 1, 2, 3, 7] Try.f31
  | _ => fun _ _ _ => Bad 1001
theorem cEO_ok : ConOk Try.prog cEO := fun f A H K h => by
  unfold cEO at h
  split at h
  · exact ⟨⟨Try.f30, Try.func30, by kernel_rfl, by kernel_rfl⟩, pureCon_ok two_ok h⟩
  · exact ⟨⟨Try.f33, Try.func33, by kernel_rfl, by kernel_rfl⟩, pureCon_ok notC_ok h⟩
  · exact ⟨⟨Try.f32, Try.func32, by kernel_rfl, by kernel_rfl⟩, pureCon_ok bothC_ok h⟩
  · exact ⟨⟨Try.f31, Try.func31, by kernel_rfl, by kernel_rfl⟩, inl_ok envOk zl noCon_ok noDraws_ok Try.func31 h⟩
  · cases h
set_option maxRecDepth 100000 in
set_option maxHeartbeats 4000000 in
theorem eithO_vc (a : Set) (b : Set) (hp : eithO_P a b) : FnOk Try.prog 19 [.agg (Dat.enc fun _ => a), .agg (Dat.enc fun _ => b)] [] (outA (eithO_R fun _ => eithO_D a b) (eithO_H fun _ => eithO_D a b)) := by
  refine fn_ok envOk zl cEO_ok (anyOrd_ok envOk zl cEO_ok mixed) (keep := [0, 1, 2, 3, 4, 5, 6, 11]) Try.func19 rfl ?_
  obtain ⟨hp1, hp2⟩ : a.spans.length ≤ 9223372036854775807 ∧ b.spans.length ≤ 9223372036854775807 := hp
  have fin0 : ∀ (e : Int) kl H, eithO_D a b = (⟨0, []⟩, e) → outA (eithO_R fun _ => eithO_D a b) (eithO_H fun _ => eithO_D a b) (.tup [.agg [.i .i64 fun _ => 0, .nil], .i .i64 fun _ => e]) H kl := fun e kl H h => by
    rw [h]
    cbv
    repeat' first | (refine Stp.mk ?_; cbv) | (refine Gen.mk fun r hr => ?_; (try simp only [Dat.ok, Dat.dec, Leaf.ok, Leaf.val, Span.eta, Set.eta, val_sl, val_nil] at hr); cbv) | exact trivial | rfl | refine Both.mk ?_ ?_ | (refine Imp.mk fun h => ?_; (try dsimp only at h); (try simp only [nc, Int.toNat_natCast, Bool.not_eq_true', Bool.not_eq_false', decide_eq_true_eq, decide_eq_false_iff_not, beq_iff_eq, beq_eq_false_iff_ne, ba_inj, bne_iff_ne, ne_eq, Bool.and_eq_true, Bool.or_eq_true, Bool.and_eq_false_iff, Bool.or_eq_false_iff, Int.not_le, Int.not_lt, Nat.not_le, Nat.not_lt] at h); (try simp only [nc] at h)) | refine Ob.mk ?_ ?_ | refine Chk.mk (by kernel_rfl) ?_ | refine Eq'.mk ?_ | (refine AllN.mk fun i hi => ?_; cbv) | (refine AllC.mk fun c hc hcm => ?_; (try dsimp only at hc); cbv) | (refine AllS.mk fun r hr => ?_; (try simp only [Dat.ok, Dat.dec, Leaf.ok, Leaf.val, Span.eta, Set.eta, val_sl] at hr); cbv)
    all_goals first | rfl | (exfalso; omega)
  cbv
  repeat' first | (show Stp _; exfalso; first | omega | (exact h ‹_›) | (exact absurd ‹_› h) | (exact Bool.false_ne_true (h.symm.trans (show _ = true by assumption)))) | (refine Stp.mk ?_; cbv) | (refine Gen.mk fun r hr => ?_; (try simp only [Dat.ok, Dat.dec, Leaf.ok, Leaf.val, Span.eta, Set.eta, val_sl, val_nil] at hr); cbv) | exact trivial | rfl | refine Both.mk ?_ ?_ | (refine Imp.mk fun h => ?_; (try dsimp only at h); (try simp only [nc, Int.toNat_natCast, Bool.not_eq_true', Bool.not_eq_false', decide_eq_true_eq, decide_eq_false_iff_not, beq_iff_eq, beq_eq_false_iff_ne, ba_inj, bne_iff_ne, ne_eq, Bool.and_eq_true, Bool.or_eq_true, Bool.and_eq_false_iff, Bool.or_eq_false_iff, Int.not_le, Int.not_lt, Nat.not_le, Nat.not_lt] at h); (try simp only [nc] at h)) | refine Ob.mk ?_ ?_ | refine Chk.mk (by kernel_rfl) ?_ | refine Eq'.mk ?_ | (refine AllN.mk fun i hi => ?_; cbv) | (refine AllC.mk fun c hc hcm => ?_; (try dsimp only at hc); cbv) | (refine AllS.mk fun r hr => ?_; (try simp only [Dat.ok, Dat.dec, Leaf.ok, Leaf.val, Span.eta, Set.eta, val_sl] at hr); cbv)
  all_goals ((try dsimp only at *); (try simp only [nc, Int.toNat_natCast, Bool.not_eq_true', Bool.not_eq_false', decide_eq_true_eq, decide_eq_false_iff_not, beq_iff_eq, beq_eq_false_iff_ne, ba_inj, bne_iff_ne, ne_eq, Bool.and_eq_true, Bool.or_eq_true, Bool.and_eq_false_iff, Bool.or_eq_false_iff, Int.not_le, Int.not_lt, Nat.not_le, Nat.not_lt] at *); (try simp only [nc] at *))
  all_goals try simp only [Dat.dec, Leaf.val, Span.eta, Set.eta, val_sl] at *
  all_goals subst_vars
  all_goals try have hR := two_right (show twoV a b = 0 by assumption)
  all_goals try have hl1 := hR.1.len
  all_goals try have hl2 := hR.2.1.len
  all_goals have hl3 : (notV a).spans.length ≤ a.spans.length + 1 := @notS_len a.size a.spans 0
  all_goals have hl4 : (notV b).spans.length ≤ b.spans.length + 1 := @notS_len b.size b.spans 0
  all_goals have hl5 : (bothV (notV a) (notV b)).spans.length ≤ (notV a).spans.length + (notV b).spans.length := bothR_len _ (notS a.size 0 a.spans) (notS b.size 0 b.spans) (Nat.le_refl _)
  all_goals have hl6 : (notV (bothV (notV a) (notV b))).spans.length ≤ (bothV (notV a) (notV b)).spans.length + 1 := @notS_len a.size (bothR (notS a.size 0 a.spans) (notS b.size 0 b.spans)) 0
  all_goals first
    | exact Nat.le_refl _
    | exact ⟨⟨trivial, rfl, fun i _ => Dat.hok _⟩, ⟨trivial, rfl, fun i _ => Dat.hok _⟩, hp1, hp2⟩
    | exact ⟨⟨trivial, rfl, fun i _ => Dat.hok _⟩, show a.spans.length ≤ 1000 by omega⟩
    | exact ⟨⟨trivial, rfl, fun i _ => Dat.hok _⟩, show b.spans.length ≤ 1000 by omega⟩
    | exact ⟨⟨trivial, rfl, fun i _ => Dat.hok _⟩, ⟨trivial, rfl, fun i _ => Dat.hok _⟩, show (notV a).spans.length ≤ 1000 by omega, show (notV b).spans.length ≤ 1000 by omega⟩
    | exact ⟨⟨trivial, rfl, fun i _ => Dat.hok _⟩, show (bothV (notV a) (notV b)).spans.length ≤ 1000 by omega⟩
    | skip
  all_goals first
    | (have e : eithO_D a b = (⟨0, []⟩, twoV a b) := if_neg (by assumption)
       rw [e]; done)
    | (have e : eithO_D a b = (⟨0, []⟩, twoV a b) := if_neg (by assumption)
       rw [e]; rfl)
    | (have e : eithO_D a b = (⟨0, []⟩, twoV a b) := if_neg (by assumption)
       rw [e]; exfalso; omega)
    | (have e : eithO_D a b = (⟨0, []⟩, 2) := (if_pos (by assumption)).trans (if_pos (by omega))
       rw [e]; done)
    | (have e : eithO_D a b = (⟨0, []⟩, 2) := (if_pos (by assumption)).trans (if_pos (by omega))
       rw [e]; rfl)
    | (have e : eithO_D a b = (⟨0, []⟩, 2) := (if_pos (by assumption)).trans (if_pos (by omega))
       rw [e]; exfalso; omega)
    | (have e : eithO_D a b = (notV (bothV (notV a) (notV b)), 0) := (if_pos (by assumption)).trans (if_neg (by omega))
       rw [e]
       done)
    | (have e : eithO_D a b = (notV (bothV (notV a) (notV b)), 0) := (if_pos (by assumption)).trans (if_neg (by omega))
       rw [e]
       first | rfl | (exfalso; omega))
    | (exfalso; omega)
    | fail
theorem eithO_ok : PcOk Try.prog 19 (eithO_C) := fun A K h => by
  unfold eithO_C at h
  split at h
  · rename_i a b
    cases h with
    | mk h1 h2 =>
      obtain ⟨g0, g1, hp⟩ := h1
      refine FnOk.pre ?_ (A' := [.agg (Dat.enc fun _ => (Dat.dec a : Set)), .agg (Dat.enc fun _ => (Dat.dec b : Set))]) (.mk (Dat.hle _ g0) (.mk (Dat.hle _ g1) (trivial)))
      exact FnOk.out (K := fun r H _ => K r H) (eithO_vc (Dat.dec a) (Dat.dec b) hp) rfl h2.out
  · cases h

end Go.Proofs.Ytkpkfkbbkcecmaa
