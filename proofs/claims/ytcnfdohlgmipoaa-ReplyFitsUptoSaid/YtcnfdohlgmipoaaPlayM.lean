/- How many are late, walked. -/
import Derived.Test.YtcnfdohlgmipoaaPlayJ
import Derived.Test.YtcnfdohlgmipoaaPlayN
import Derived.Test.YtcnfdohlgmipoaaLates
set_option linter.all false
namespace Go.Proofs.Ytcnfdohlgmipoaa
open Go Go.Abs

def lateC_R (r : Th (Int × Bool)) : AV := .tup [.i .i64 fun _ => (r ()).1, .b fun _ => (r ()).2]
def lateC_P (l : (List Task)) (s : Set) (first : (List Int)) (policy : Int) (u : Int) : Prop := l.length ≤ 9223372036854775807 ∧ s.spans.length ≤ 9223372036854775807 ∧ first.length ≤ 9223372036854775807
def lateC_D : Det := fun A => match A with
  | [l, .agg s, first, .i .i64 policy, .i .i64 u] => some (fun _ => Leaf.ok (List Task) l ∧ Dat.ok Set s ∧ Leaf.ok (List Int) first ∧ lateC_P (Leaf.val l) (Dat.dec s) (Leaf.val first) (policy ()) (u ()), lateC_R fun _ => lateV (Leaf.val l) (Dat.dec s) (Leaf.val first) (policy ()) (u ()))
  | _ => none
noncomputable def cLa : FuncId → Con := fun f => match f with
  | 11 => pureCon playC_C
  | 15 => pureCon latesC_C
  | _ => fun _ _ _ => Bad 1001
theorem cLa_ok : ConOk Try.prog cLa := fun f A H K h => by
  unfold cLa at h
  split at h
  · exact ⟨⟨Try.f11, Try.func11, by kernel_rfl, by kernel_rfl⟩, pureCon_ok playC_ok h⟩
  · exact ⟨⟨Try.f15, Try.func15, by kernel_rfl, by kernel_rfl⟩, pureCon_ok latesC_ok h⟩
  · cases h
set_option maxRecDepth 100000 in
set_option maxHeartbeats 4000000 in
theorem lateC_vc (l : (List Task)) (s : Set) (first : (List Int)) (policy : Int) (u : Int) (hp : lateC_P l s first policy u) : FnOk Try.prog 17 [Leaf.av fun _ => l, .agg (Dat.enc fun _ => s), Leaf.av fun _ => first, .i .i64 fun _ => policy, .i .i64 fun _ => u] [] (outA (lateC_R fun _ => lateV l s first policy u) []) := by
  refine fn_ok envOk zl cLa_ok noDraws_ok (keep := [0, 1, 2, 3, 4, 6, 10, 11, 12, 14, 15, 16]) Try.func17 rfl ?_
  have hp' : l.length ≤ 9223372036854775807 ∧ s.spans.length ≤ 9223372036854775807 ∧ first.length ≤ 9223372036854775807 := hp
  have fin : ∀ (n : Int) (b : PUnit → Bool) H kl, lateV l s first policy u = (n, b ()) → outA (lateC_R fun _ => lateV l s first policy u) [] (.tup [.i .i64 fun _ => n, .b b]) H kl := fun n b H kl h => by
    rw [h]
    cbv
    repeat' first | (refine Stp.mk ?_; cbv) | (refine Gen.mk fun r hr => ?_; (try simp only [Dat.ok, Dat.dec, Leaf.ok, Leaf.val, Span.eta, Set.eta, Task.eta, Done.eta, job.eta, Late.eta, val_sl, val_nil] at hr); cbv) | exact trivial | rfl | refine Both.mk ?_ ?_ | (refine Imp.mk fun h => ?_; (try dsimp only at h); (try simp only [nc, Int.toNat_natCast, ne_eq, zz] at h); (try simp only [nc] at h)) | refine Ob.mk ?_ ?_ | refine Chk.mk (by kernel_rfl) ?_ | refine Eq'.mk ?_ | (refine AllN.mk fun i hi => ?_; cbv) | (refine AllC.mk fun c hc hcm => ?_; (try dsimp only at hc); cbv) | (refine AllS.mk fun r hr => ?_; (try simp only [Dat.ok, Dat.dec, Leaf.ok, Leaf.val, Span.eta, Set.eta, Task.eta, Done.eta, job.eta, Late.eta, val_sl] at hr); cbv)
  have finc : ∀ (n : Int) (b : Bool) H kl, lateV l s first policy u = (n, b) → outA (lateC_R fun _ => lateV l s first policy u) [] (.tup [.i .i64 fun _ => n, .bc b]) H kl := fun n b H kl h => by
    rw [h]
    cbv
    repeat' first | (refine Stp.mk ?_; cbv) | (refine Gen.mk fun r hr => ?_; (try simp only [Dat.ok, Dat.dec, Leaf.ok, Leaf.val, Span.eta, Set.eta, Task.eta, Done.eta, job.eta, Late.eta, val_sl, val_nil] at hr); cbv) | exact trivial | rfl | refine Both.mk ?_ ?_ | (refine Imp.mk fun h => ?_; (try dsimp only at h); (try simp only [nc, Int.toNat_natCast, ne_eq, zz] at h); (try simp only [nc] at h)) | refine Ob.mk ?_ ?_ | refine Chk.mk (by kernel_rfl) ?_ | refine Eq'.mk ?_ | (refine AllN.mk fun i hi => ?_; cbv) | (refine AllC.mk fun c hc hcm => ?_; (try dsimp only at hc); cbv) | (refine AllS.mk fun r hr => ?_; (try simp only [Dat.ok, Dat.dec, Leaf.ok, Leaf.val, Span.eta, Set.eta, Task.eta, Done.eta, job.eta, Late.eta, val_sl] at hr); cbv)
  generalize outA (lateC_R fun _ => lateV l s first policy u) [] = K at fin finc ⊢
  cbv
  repeat' first | (show Stp _; exfalso; first | omega | (exact h ‹_›) | (exact absurd ‹_› h) | (exact Bool.false_ne_true (h.symm.trans (show _ = true by assumption)))) | (refine Stp.mk ?_; cbv) | (refine Gen.mk fun r hr => ?_; (try simp only [Dat.ok, Dat.dec, Leaf.ok, Leaf.val, Span.eta, Set.eta, Task.eta, Done.eta, job.eta, Late.eta, val_sl, val_nil] at hr); cbv) | exact trivial | rfl | refine Both.mk ?_ ?_ | (refine Imp.mk fun h => ?_; (try dsimp only at h); (try simp only [nc, Int.toNat_natCast, ne_eq, zz] at h); (try simp only [nc] at h)) | refine Ob.mk ?_ ?_ | refine Chk.mk (by kernel_rfl) ?_ | refine Eq'.mk ?_ | (refine AllN.mk fun i hi => ?_; cbv) | (refine AllC.mk fun c hc hcm => ?_; (try dsimp only at hc); cbv) | (refine AllS.mk fun r hr => ?_; (try simp only [Dat.ok, Dat.dec, Leaf.ok, Leaf.val, Span.eta, Set.eta, Task.eta, Done.eta, job.eta, Late.eta, val_sl] at hr); cbv)
  all_goals ((try dsimp only at *); (try simp only [nc, Int.toNat_natCast, ne_eq, zz] at *); (try simp only [nc] at *))
  all_goals try simp only [Dat.dec, Leaf.val, Span.eta, Set.eta, Task.eta, Done.eta, job.eta, Late.eta, val_sl] at *
  all_goals try (first
    | exact Nat.le_refl _
    | exact ⟨⟨rfl, fun i _ => Dat.hok _⟩, ⟨trivial, rfl, fun i _ => Dat.hok _⟩, ⟨rfl, fun i _ => Dat.hok _⟩, hp'⟩
    | exact ⟨⟨rfl, fun i _ => Dat.hok _⟩, ⟨rfl, fun i _ => Dat.hok _⟩, ⟨rfl, fun i _ => Dat.hok _⟩, hp'.1, hp'.2.2⟩)
  all_goals repeat (rename (_ = latesV _ _ _ _) => hq3; have hq4 := hq3.symm; clear hq3; subst hq4)
  all_goals repeat (rename (_ = playJ _ _ _ _ _) => hq3; have hq4 := hq3.symm; clear hq3; subst hq4)
  all_goals first
    | (refine fin _ _ _ _ ?_
       unfold lateV
       rw [decide_eq_true (by assumption), Bool.true_and]
       rfl)
    | (refine finc _ _ _ _ ?_
       unfold lateV
       rw [decide_eq_false (by assumption), Bool.false_and])
    | fail
theorem lateC_ok : PcOk Try.prog 17 (detPC lateC_D) := det_okA fun A p r h hp0 => by
  unfold lateC_D at h
  split at h
  · rename_i l s first policy u
    cases h
    obtain ⟨g0, g1, g2, hp⟩ := hp0
    exact ⟨rfl, FnOk.pre (A' := [Leaf.av fun _ => (Leaf.val l : (List Task)), .agg (Dat.enc fun _ => (Dat.dec s : Set)), Leaf.av fun _ => (Leaf.val first : (List Int)), .i .i64 fun _ => policy (), .i .i64 fun _ => u ()]) (lateC_vc (Leaf.val l) (Dat.dec s) (Leaf.val first) (policy ()) (u ()) hp) (.mk (Leaf.hle _ g0) (.mk (Dat.hle _ g1) (.mk (Leaf.hle _ g2) (.mk (.mk (.mk rfl) (.mk rfl)) (.mk (.mk (.mk rfl) (.mk rfl)) (trivial))))))⟩
  · cases h

end Go.Proofs.Ytcnfdohlgmipoaa
