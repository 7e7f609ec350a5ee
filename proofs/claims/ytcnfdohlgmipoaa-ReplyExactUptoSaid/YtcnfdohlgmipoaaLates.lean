/- play.Lates, walked. -/
import Derived.Test.YtcnfdohlgmipoaaJobs
set_option linter.all false
namespace Go.Proofs.Ytcnfdohlgmipoaa
open Go Go.Abs

def stepM (m : List (List Int × Int)) (d : Done) : List (List Int × Int) := if (mget [d.task, d.job] m).isSome = false ∨ d.at_ < (mget [d.task, d.job] m).getD 0 then mput [d.task, d.job] d.at_ m else m
def atM (m : List (List Int × Int)) : List Done → List (List Int × Int)
  | [] => m
  | d :: r => atM (stepM m d) r
def lateB (m : List (List Int × Int)) (u : Int) (j : job) : Bool := decide (j.due ≤ u) && (!(mget [j.done.task, j.done.job] m).isSome || decide (j.due < (mget [j.done.task, j.done.job] m).getD 0))
def latesL (m : List (List Int × Int)) (u : Int) (all : List job) : List Late := (all.filter (lateB m u)).map fun j => ⟨j.done.task, j.done.job⟩
def latesV (l : List Task) (first : List Int) (done : List Done) (u : Int) : List Late × Int :=
  if ¬ tchkV l = 0 then ([], tchkV l) else if ¬ firstsV l first = 0 then ([], firstsV l first) else if u < 0 ∨ 20000 < u then ([], 1) else
  if ¬ (jobsV l first u).2 = 0 then ([], (jobsV l first u).2) else if 10000 < done.length then ([], 2) else (latesL (atM [] done) u (jobsV l first u).1, 0)
structure LtX (done : List Done) where
  p : Nat
  m : List (List Int × Int)
  hp : p ≤ done.length
  he : atM [] done = atM m (done.drop p)
structure LuX (m : List (List Int × Int)) (u : Int) (all : List job) where
  p : Nat
  out : List Late
  hp : p ≤ all.length
  ho : out.length ≤ p
  he : latesL m u all = out ++ latesL m u (all.drop p)
theorem firsts_iff' {l : List Task} {first : List Int} : firstsV l first = 0 ↔ first.length = l.length ∧ first.any badF = false := by
  unfold firstsV
  split
  · rename_i h; exact ⟨fun _ => h, fun _ => rfl⟩
  · rename_i h; exact ⟨fun q => (by cases q), fun q => absurd q h⟩
theorem latesL_step {m : List (List Int × Int)} {u : Int} {all : List job} {p : Nat} (h : p < all.length) : latesL m u (all.drop p) = (if lateB m u (all.getD p Dat.d0) = true then [⟨(all.getD p Dat.d0).done.task, (all.getD p Dat.d0).done.job⟩] else []) ++ latesL m u (all.drop (p + 1)) := by
  rw [drop_cons Dat.d0 h]
  unfold latesL
  rw [List.filter_cons]
  split <;> simp
def latesC_R (r : Th ((List Late) × Int)) : AV := .tup [.own 0 fun _ => (r ()).1.length, .i .i64 fun _ => (r ()).2]
def latesC_H (r : Th ((List Late) × Int)) : Hp := [vecO 52 fun _ => (r ()).1]
def latesC_P (l : (List Task)) (first : (List Int)) (done : (List Done)) (u : Int) : Prop := l.length ≤ 9223372036854775807 ∧ first.length ≤ 9223372036854775807
def latesC_C : PC := fun A K => match A with
  | [l, first, done, .i .i64 u] => Ob (fun _ => Leaf.ok (List Task) l ∧ Leaf.ok (List Int) first ∧ Leaf.ok (List Done) done ∧ latesC_P (Leaf.val l) (Leaf.val first) (Leaf.val done) (u ())) (Gen (α := (List Late) × Int) (fun _ => latesV (Leaf.val l) (Leaf.val first) (Leaf.val done) (u ())) fun r => K (latesC_R fun _ => r) (latesC_H fun _ => r))
  | _ => Bad 1002
noncomputable def cLt : FuncId → Con := fun f => match f with
  | 22 => pureCon (detPC tchk_D)
  | 26 => pureCon (detPC firstsC_D)
  | 27 => pureCon jobsC_C
  | _ => fun _ _ _ => Bad 1001
theorem cLt_ok : ConOk Try.prog cLt := fun f A H K h => by
  unfold cLt at h
  split at h
  · exact ⟨⟨Try.f22, Try.func22, by kernel_rfl, by kernel_rfl⟩, pureCon_ok tchk_ok h⟩
  · exact ⟨⟨Try.f26, Try.func26, by kernel_rfl, by kernel_rfl⟩, pureCon_ok firstsC_ok h⟩
  · exact ⟨⟨Try.f27, Try.func27, by kernel_rfl, by kernel_rfl⟩, pureCon_ok jobsC_ok h⟩
  · cases h
set_option maxRecDepth 100000 in
set_option maxHeartbeats 4000000 in
theorem latesC_vc (l : (List Task)) (first : (List Int)) (done : (List Done)) (u : Int) (hp : latesC_P l first done u) : FnOk Try.prog 15 [Leaf.av fun _ => l, Leaf.av fun _ => first, Leaf.av fun _ => done, .i .i64 fun _ => u] [] (outA (latesC_R fun _ => latesV l first done u) (latesC_H fun _ => latesV l first done u)) := by
  refine fn_ok envOk zl cLt_ok noDraws_ok (keep := [0, 1, 2, 3, 8, 9, 10, 11, 12, 13, 14, 16, 17, 18, 19, 20, 22, 23, 24, 25, 29, 35, 42, 56, 58, 61, 62, 63, 64, 85, 91, 92, 93, 94, 123]) Try.func15 rfl ?_
  obtain ⟨p1, p3⟩ : l.length ≤ 9223372036854775807 ∧ first.length ≤ 9223372036854775807 := hp
  have fin0 : ∀ (e : Int) kl H, latesV l first done u = ([], e) → outA (latesC_R fun _ => latesV l first done u) (latesC_H fun _ => latesV l first done u) (.tup [.nil, .i .i64 fun _ => e]) H kl := fun e kl H h => by
    rw [h]
    cbv
    repeat' first | (refine Stp.mk ?_; cbv) | (refine Gen.mk fun r hr => ?_; (try simp only [Dat.ok, Dat.dec, Leaf.ok, Leaf.val, Span.eta, Set.eta, Task.eta, Done.eta, job.eta, Late.eta, val_sl, val_nil] at hr); cbv) | exact trivial | rfl | refine Both.mk ?_ ?_ | (refine Imp.mk fun h => ?_; (try dsimp only at h); (try simp only [nc, Int.toNat_natCast, ne_eq, zz] at h); (try simp only [nc] at h)) | refine Ob.mk ?_ ?_ | refine Chk.mk (by kernel_rfl) ?_ | refine Eq'.mk ?_ | (refine AllN.mk fun i hi => ?_; cbv) | (refine AllC.mk fun c hc hcm => ?_; (try dsimp only at hc); cbv) | (refine AllS.mk fun r hr => ?_; (try simp only [Dat.ok, Dat.dec, Leaf.ok, Leaf.val, Span.eta, Set.eta, Task.eta, Done.eta, job.eta, Late.eta, val_sl] at hr); cbv)
    all_goals first | rfl | (exfalso; omega)
  have fin1 : ∀ (out : List Late) (a0 a1 : AObj) (H : Hp) kl, latesV l first done u = (out, 0) → outA (latesC_R fun _ => latesV l first done u) (latesC_H fun _ => latesV l first done u) (.tup [.own 2 fun _ => out.length, .i .i64 fun _ => 0]) (a0 :: a1 :: vecO 52 (fun _ => out) :: H) kl := fun out a0 a1 H kl h => by
    rw [h]
    cbv
    repeat' first | (refine Stp.mk ?_; cbv) | (refine Gen.mk fun r hr => ?_; (try simp only [Dat.ok, Dat.dec, Leaf.ok, Leaf.val, Span.eta, Set.eta, Task.eta, Done.eta, job.eta, Late.eta, val_sl, val_nil] at hr); cbv) | exact trivial | rfl | refine Both.mk ?_ ?_ | (refine Imp.mk fun h => ?_; (try dsimp only at h); (try simp only [nc, Int.toNat_natCast, ne_eq, zz] at h); (try simp only [nc] at h)) | refine Ob.mk ?_ ?_ | refine Chk.mk (by kernel_rfl) ?_ | refine Eq'.mk ?_ | (refine AllN.mk fun i hi => ?_; cbv) | (refine AllC.mk fun c hc hcm => ?_; (try dsimp only at hc); cbv) | (refine AllS.mk fun r hr => ?_; (try simp only [Dat.ok, Dat.dec, Leaf.ok, Leaf.val, Span.eta, Set.eta, Task.eta, Done.eta, job.eta, Late.eta, val_sl] at hr); cbv)
  generalize outA (latesC_R fun _ => latesV l first done u) (latesC_H fun _ => latesV l first done u) = K at fin0 fin1 ⊢
  cbv
  repeat' first | (show Stp _; exfalso; first | omega | (exact h ‹_›) | (exact absurd ‹_› h) | (exact Bool.false_ne_true (h.symm.trans (show _ = true by assumption)))) | (refine Stp.mk ?_; cbv) | (refine Gen.mk fun r hr => ?_; (try simp only [Dat.ok, Dat.dec, Leaf.ok, Leaf.val, Span.eta, Set.eta, Task.eta, Done.eta, job.eta, Late.eta, val_sl, val_nil] at hr); cbv) | exact trivial | rfl | refine Both.mk ?_ ?_ | (refine Imp.mk fun h => ?_; (try dsimp only at h); (try simp only [nc, Int.toNat_natCast, ne_eq, zz] at h); (try simp only [nc] at h)) | refine Ob.mk ?_ ?_ | refine Chk.mk (by kernel_rfl) ?_ | refine Eq'.mk ?_ | (refine AllN.mk fun i hi => ?_; cbv) | (refine AllC.mk fun c hc hcm => ?_; (try dsimp only at hc); cbv) | (refine AllS.mk fun r hr => ?_; (try simp only [Dat.ok, Dat.dec, Leaf.ok, Leaf.val, Span.eta, Set.eta, Task.eta, Done.eta, job.eta, Late.eta, val_sl] at hr); cbv)
  all_goals ((try dsimp only at *); (try simp only [nc, Int.toNat_natCast, ne_eq, zz] at *); (try simp only [nc] at *))
  all_goals try simp only [Dat.dec, Leaf.val, Span.eta, Set.eta, Task.eta, Done.eta, job.eta, Late.eta, val_sl] at *
  all_goals try (
    refine fin0 _ _ _ ?_
    rw [latesV]
    repeat (first | rw [if_pos (by first | assumption | omega)] | rw [if_neg (by first | (intro q; exact q (by assumption)) | omega)])
    done)
  all_goals try (first
    | omega
    | exact ⟨by omega, by omega⟩
    | (unfold InR; omega)
    | exact ⟨⟨rfl, fun i _ => Dat.hok _⟩, p1⟩
    | exact ⟨⟨rfl, fun i _ => Dat.hok _⟩, ⟨rfl, fun i _ => Dat.hok _⟩, p3⟩)
  all_goals have ht1 := tchk_iff.1 (show tchkV l = 0 by assumption)
  all_goals have hf1 := firsts_iff'.1 (show firstsV l first = 0 by assumption)
  all_goals try (exact ⟨⟨rfl, fun i _ => Dat.hok _⟩, ⟨rfl, fun i _ => Dat.hok _⟩, ht1.1, ht1.2, hf1.1, hf1.2, by omega, by omega⟩)
  all_goals subst hr
  all_goals try (
    refine fin0 _ _ _ ?_
    rw [latesV, if_neg (fun q => q (by assumption)), if_neg (fun q => q (by assumption)), if_neg (by omega), if_neg (fun q => q (by assumption)), if_pos (by omega)]
    done)
  all_goals try (
    refine fin0 _ _ _ ?_
    rw [latesV, if_neg (fun q => q (by assumption)), if_neg (fun q => q (by assumption)), if_neg (by omega), if_pos (by assumption)]
    done)
  have eL : latesV l first done u = (latesL (atM [] done) u (jobsV l first u).1, 0) := by
    rw [latesV, if_neg (fun q => q (by assumption)), if_neg (fun q => q (by assumption)), if_neg (by omega), if_neg (fun q => q (by assumption)), if_neg (by omega)]
  have hJl : (jobsV l first u).1.length ≤ 2000 := by
    unfold jobsV
    split
    · assumption
    · exact Nat.zero_le _
  rw [eL] at fin0 fin1
  clear fin0
  revert hJl fin1
  generalize (jobsV l first u).1 = all
  intro fin1 hJl
  refine LoopVC.frame [16, 17, 18, 19, 63, 64, 85] (LtX done) (fun x => [(63, .i .i64 fun _ => x.p)]) (fun x => [(1, .mp 2 fun _ => x.m)]) [] (fun x => done.length - x.p) ⟨0, [], Nat.zero_le _, rfl⟩ rfl (fun _ => rfl) ?_ ?_ fun ⟨p, m, hp, he⟩ => ?_
  iterate 2
    · cbv
      repeat' first | (refine Stp.mk ?_; cbv) | (refine Gen.mk fun r hr => ?_; (try simp only [Dat.ok, Dat.dec, Leaf.ok, Leaf.val, Span.eta, Set.eta, Task.eta, Done.eta, job.eta, Late.eta, val_sl, val_nil] at hr); cbv) | exact trivial | rfl | refine Both.mk ?_ ?_ | (refine Imp.mk fun h => ?_; (try dsimp only at h); (try simp only [nc, Int.toNat_natCast, ne_eq, zz] at h); (try simp only [nc] at h)) | refine Ob.mk ?_ ?_ | refine Chk.mk (by kernel_rfl) ?_ | refine Eq'.mk ?_ | (refine AllN.mk fun i hi => ?_; cbv) | (refine AllC.mk fun c hc hcm => ?_; (try dsimp only at hc); cbv) | (refine AllS.mk fun r hr => ?_; (try simp only [Dat.ok, Dat.dec, Leaf.ok, Leaf.val, Span.eta, Set.eta, Task.eta, Done.eta, job.eta, Late.eta, val_sl] at hr); cbv)
  cbv
  repeat' first | (show Stp _; exfalso; first | omega | (exact h ‹_›) | (exact absurd ‹_› h) | (exact Bool.false_ne_true (h.symm.trans (show _ = true by assumption)))) | (refine Stp.mk ?_; cbv) | (refine Gen.mk fun r hr => ?_; (try simp only [Dat.ok, Dat.dec, Leaf.ok, Leaf.val, Span.eta, Set.eta, Task.eta, Done.eta, job.eta, Late.eta, val_sl, val_nil] at hr); cbv) | exact trivial | rfl | refine Both.mk ?_ ?_ | (refine Imp.mk fun h => ?_; (try dsimp only at h); (try simp only [nc, Int.toNat_natCast, ne_eq, zz] at h); (try simp only [nc] at h)) | refine Ob.mk ?_ ?_ | refine Chk.mk (by kernel_rfl) ?_ | refine Eq'.mk ?_ | (refine AllN.mk fun i hi => ?_; cbv) | (refine AllC.mk fun c hc hcm => ?_; (try dsimp only at hc); cbv) | (refine AllS.mk fun r hr => ?_; (try simp only [Dat.ok, Dat.dec, Leaf.ok, Leaf.val, Span.eta, Set.eta, Task.eta, Done.eta, job.eta, Late.eta, val_sl] at hr); cbv)
  all_goals ((try dsimp only at *); (try simp only [nc, Int.toNat_natCast, ne_eq, zz] at *); (try simp only [nc] at *))
  all_goals try rw [nc] at *
  all_goals try simp only [Dat.dec, Leaf.val, Span.eta, Set.eta, Task.eta, Done.eta, job.eta, Late.eta, val_sl] at *
  all_goals try (first
    | omega
    | exact ⟨by omega, by omega⟩
    | (unfold InR; omega))
  · refine ⟨⟨p + 1, mput [(done.getD p Dat.d0).task, (done.getD p Dat.d0).job] (done.getD p Dat.d0).at_ m, by omega, ?_⟩, ?_, ?_, rfl, by (try dsimp only); omega⟩
    · rw [he, drop_cons Dat.d0 (show p < done.length by omega), atM, stepM, if_pos (.inl (by assumption))]
    iterate 2
      · cbv
        repeat' first | (refine Stp.mk ?_; cbv) | (refine Gen.mk fun r hr => ?_; (try simp only [Dat.ok, Dat.dec, Leaf.ok, Leaf.val, Span.eta, Set.eta, Task.eta, Done.eta, job.eta, Late.eta, val_sl, val_nil] at hr); cbv) | exact trivial | rfl | refine Both.mk ?_ ?_ | (refine Imp.mk fun h => ?_; (try dsimp only at h); (try simp only [nc, Int.toNat_natCast, ne_eq, zz] at h); (try simp only [nc] at h)) | refine Ob.mk ?_ ?_ | refine Chk.mk (by kernel_rfl) ?_ | refine Eq'.mk ?_ | (refine AllN.mk fun i hi => ?_; cbv) | (refine AllC.mk fun c hc hcm => ?_; (try dsimp only at hc); cbv) | (refine AllS.mk fun r hr => ?_; (try simp only [Dat.ok, Dat.dec, Leaf.ok, Leaf.val, Span.eta, Set.eta, Task.eta, Done.eta, job.eta, Late.eta, val_sl] at hr); cbv)
  · refine ⟨⟨p + 1, mput [(done.getD p Dat.d0).task, (done.getD p Dat.d0).job] (done.getD p Dat.d0).at_ m, by omega, ?_⟩, ?_, ?_, rfl, by (try dsimp only); omega⟩
    · rw [he, drop_cons Dat.d0 (show p < done.length by omega), atM, stepM, if_pos (.inr (by assumption))]
    iterate 2
      · cbv
        repeat' first | (refine Stp.mk ?_; cbv) | (refine Gen.mk fun r hr => ?_; (try simp only [Dat.ok, Dat.dec, Leaf.ok, Leaf.val, Span.eta, Set.eta, Task.eta, Done.eta, job.eta, Late.eta, val_sl, val_nil] at hr); cbv) | exact trivial | rfl | refine Both.mk ?_ ?_ | (refine Imp.mk fun h => ?_; (try dsimp only at h); (try simp only [nc, Int.toNat_natCast, ne_eq, zz] at h); (try simp only [nc] at h)) | refine Ob.mk ?_ ?_ | refine Chk.mk (by kernel_rfl) ?_ | refine Eq'.mk ?_ | (refine AllN.mk fun i hi => ?_; cbv) | (refine AllC.mk fun c hc hcm => ?_; (try dsimp only at hc); cbv) | (refine AllS.mk fun r hr => ?_; (try simp only [Dat.ok, Dat.dec, Leaf.ok, Leaf.val, Span.eta, Set.eta, Task.eta, Done.eta, job.eta, Late.eta, val_sl] at hr); cbv)
  · refine ⟨⟨p + 1, m, by omega, ?_⟩, ?_, ?_, rfl, by (try dsimp only); omega⟩
    · rw [he, drop_cons Dat.d0 (show p < done.length by omega), atM, stepM, if_neg]
      rintro (h9 | h9)
      · exact Bool.false_ne_true (h9.symm.trans (by assumption))
      · omega
    iterate 2
      · cbv
        repeat' first | (refine Stp.mk ?_; cbv) | (refine Gen.mk fun r hr => ?_; (try simp only [Dat.ok, Dat.dec, Leaf.ok, Leaf.val, Span.eta, Set.eta, Task.eta, Done.eta, job.eta, Late.eta, val_sl, val_nil] at hr); cbv) | exact trivial | rfl | refine Both.mk ?_ ?_ | (refine Imp.mk fun h => ?_; (try dsimp only at h); (try simp only [nc, Int.toNat_natCast, ne_eq, zz] at h); (try simp only [nc] at h)) | refine Ob.mk ?_ ?_ | refine Chk.mk (by kernel_rfl) ?_ | refine Eq'.mk ?_ | (refine AllN.mk fun i hi => ?_; cbv) | (refine AllC.mk fun c hc hcm => ?_; (try dsimp only at hc); cbv) | (refine AllS.mk fun r hr => ?_; (try simp only [Dat.ok, Dat.dec, Leaf.ok, Leaf.val, Span.eta, Set.eta, Task.eta, Done.eta, job.eta, Late.eta, val_sl] at hr); cbv)
  have hM : atM [] done = m := by rw [he, List.drop_eq_nil_of_le (by omega)]; rfl
  rw [hM] at fin1
  refine LoopVC.frame [20, 22, 23, 24, 25, 93, 94, 123] (LuX m u all) (fun x => [(93, .i .i64 fun _ => x.p), (20, .own 2 fun _ => x.out.length)]) (fun x => [(2, vecO 52 fun _ => x.out)]) [2] (fun x => all.length - x.p) ⟨0, [], Nat.zero_le _, Nat.le_refl _, rfl⟩ rfl (fun _ => rfl) ?_ ?_ fun ⟨p, out, hp, ho, he⟩ => ?_
  iterate 2
    · cbv
      repeat' first | (refine Stp.mk ?_; cbv) | (refine Gen.mk fun r hr => ?_; (try simp only [Dat.ok, Dat.dec, Leaf.ok, Leaf.val, Span.eta, Set.eta, Task.eta, Done.eta, job.eta, Late.eta, val_sl, val_nil] at hr); cbv) | exact trivial | rfl | refine Both.mk ?_ ?_ | (refine Imp.mk fun h => ?_; (try dsimp only at h); (try simp only [nc, Int.toNat_natCast, ne_eq, zz] at h); (try simp only [nc] at h)) | refine Ob.mk ?_ ?_ | refine Chk.mk (by kernel_rfl) ?_ | refine Eq'.mk ?_ | (refine AllN.mk fun i hi => ?_; cbv) | (refine AllC.mk fun c hc hcm => ?_; (try dsimp only at hc); cbv) | (refine AllS.mk fun r hr => ?_; (try simp only [Dat.ok, Dat.dec, Leaf.ok, Leaf.val, Span.eta, Set.eta, Task.eta, Done.eta, job.eta, Late.eta, val_sl] at hr); cbv)
  cbv
  repeat' first | (show Stp _; exfalso; first | omega | (exact h ‹_›) | (exact absurd ‹_› h) | (exact Bool.false_ne_true (h.symm.trans (show _ = true by assumption)))) | (refine Stp.mk ?_; cbv) | (refine Gen.mk fun r hr => ?_; (try simp only [Dat.ok, Dat.dec, Leaf.ok, Leaf.val, Span.eta, Set.eta, Task.eta, Done.eta, job.eta, Late.eta, val_sl, val_nil] at hr); cbv) | exact trivial | rfl | refine Both.mk ?_ ?_ | (refine Imp.mk fun h => ?_; (try dsimp only at h); (try simp only [nc, Int.toNat_natCast, ne_eq, zz] at h); (try simp only [nc] at h)) | refine Ob.mk ?_ ?_ | refine Chk.mk (by kernel_rfl) ?_ | refine Eq'.mk ?_ | (refine AllN.mk fun i hi => ?_; cbv) | (refine AllC.mk fun c hc hcm => ?_; (try dsimp only at hc); cbv) | (refine AllS.mk fun r hr => ?_; (try simp only [Dat.ok, Dat.dec, Leaf.ok, Leaf.val, Span.eta, Set.eta, Task.eta, Done.eta, job.eta, Late.eta, val_sl] at hr); cbv)
  all_goals ((try dsimp only at *); (try simp only [nc, Int.toNat_natCast, ne_eq, zz] at *); (try simp only [nc] at *))
  all_goals try rw [nc] at *
  all_goals try simp only [Dat.dec, Leaf.val, Span.eta, Set.eta, Task.eta, Done.eta, job.eta, Late.eta, val_sl] at *
  all_goals try (first
    | omega
    | exact ⟨by omega, by omega⟩
    | exact ⟨Nat.le_refl _, trivial, by omega, by omega⟩
    | (unfold InR; omega))
  · have hpa : p < all.length := by omega
    have hb : lateB m u (all.getD p Dat.d0) = true := by
      unfold lateB
      rw [decide_eq_true (by assumption), Bool.true_and]
      first
        | (rw [show (mget [(all.getD p Dat.d0).done.task, (all.getD p Dat.d0).done.job] m).isSome = false by assumption]; rfl)
        | (rw [show (mget [(all.getD p Dat.d0).done.task, (all.getD p Dat.d0).done.job] m).isSome = true by assumption, decide_eq_true (show (all.getD p Dat.d0).due < (mget [(all.getD p Dat.d0).done.task, (all.getD p Dat.d0).done.job] m).getD 0 by assumption)]; rfl)
    refine ⟨⟨p + 1, out ++ [⟨(all.getD p Dat.d0).done.task, (all.getD p Dat.d0).done.job⟩], by omega, by rw [List.length_append, List.length_singleton]; omega, ?_⟩, ?_, ?_, rfl, by (try dsimp only); omega⟩
    · rw [he, latesL_step hpa, if_pos hb, List.append_assoc]
    · cbv
      repeat' first | (refine Stp.mk ?_; cbv) | (refine Gen.mk fun r hr => ?_; (try simp only [Dat.ok, Dat.dec, Leaf.ok, Leaf.val, Span.eta, Set.eta, Task.eta, Done.eta, job.eta, Late.eta, val_sl, val_nil] at hr); cbv) | exact trivial | rfl | refine Both.mk ?_ ?_ | (refine Imp.mk fun h => ?_; (try dsimp only at h); (try simp only [nc, Int.toNat_natCast, ne_eq, zz] at h); (try simp only [nc] at h)) | refine Ob.mk ?_ ?_ | refine Chk.mk (by kernel_rfl) ?_ | refine Eq'.mk ?_ | (refine AllN.mk fun i hi => ?_; cbv) | (refine AllC.mk fun c hc hcm => ?_; (try dsimp only at hc); cbv) | (refine AllS.mk fun r hr => ?_; (try simp only [Dat.ok, Dat.dec, Leaf.ok, Leaf.val, Span.eta, Set.eta, Task.eta, Done.eta, job.eta, Late.eta, val_sl] at hr); cbv)
      all_goals first
        | (simp; done)
        | fail
    · cbv
      repeat' first | (refine Stp.mk ?_; cbv) | (refine Gen.mk fun r hr => ?_; (try simp only [Dat.ok, Dat.dec, Leaf.ok, Leaf.val, Span.eta, Set.eta, Task.eta, Done.eta, job.eta, Late.eta, val_sl, val_nil] at hr); cbv) | exact trivial | rfl | refine Both.mk ?_ ?_ | (refine Imp.mk fun h => ?_; (try dsimp only at h); (try simp only [nc, Int.toNat_natCast, ne_eq, zz] at h); (try simp only [nc] at h)) | refine Ob.mk ?_ ?_ | refine Chk.mk (by kernel_rfl) ?_ | refine Eq'.mk ?_ | (refine AllN.mk fun i hi => ?_; cbv) | (refine AllC.mk fun c hc hcm => ?_; (try dsimp only at hc); cbv) | (refine AllS.mk fun r hr => ?_; (try simp only [Dat.ok, Dat.dec, Leaf.ok, Leaf.val, Span.eta, Set.eta, Task.eta, Done.eta, job.eta, Late.eta, val_sl] at hr); cbv)
      all_goals ((try dsimp only at *); (try simp only [nc, Int.toNat_natCast, ne_eq, zz] at *); (try simp only [nc] at *))
      all_goals first
        | (rw [gd_snoc out _ Dat.d0 i (by assumption)]; generalize decide (i < out.length) = c9; cases c9 <;> rfl)
        | (simp; done)
        | fail
  · have hpa : p < all.length := by omega
    have hb : lateB m u (all.getD p Dat.d0) = true := by
      unfold lateB
      rw [decide_eq_true (by assumption), Bool.true_and]
      first
        | (rw [show (mget [(all.getD p Dat.d0).done.task, (all.getD p Dat.d0).done.job] m).isSome = false by assumption]; rfl)
        | (rw [show (mget [(all.getD p Dat.d0).done.task, (all.getD p Dat.d0).done.job] m).isSome = true by assumption, decide_eq_true (show (all.getD p Dat.d0).due < (mget [(all.getD p Dat.d0).done.task, (all.getD p Dat.d0).done.job] m).getD 0 by assumption)]; rfl)
    refine ⟨⟨p + 1, out ++ [⟨(all.getD p Dat.d0).done.task, (all.getD p Dat.d0).done.job⟩], by omega, by rw [List.length_append, List.length_singleton]; omega, ?_⟩, ?_, ?_, rfl, by (try dsimp only); omega⟩
    · rw [he, latesL_step hpa, if_pos hb, List.append_assoc]
    · cbv
      repeat' first | (refine Stp.mk ?_; cbv) | (refine Gen.mk fun r hr => ?_; (try simp only [Dat.ok, Dat.dec, Leaf.ok, Leaf.val, Span.eta, Set.eta, Task.eta, Done.eta, job.eta, Late.eta, val_sl, val_nil] at hr); cbv) | exact trivial | rfl | refine Both.mk ?_ ?_ | (refine Imp.mk fun h => ?_; (try dsimp only at h); (try simp only [nc, Int.toNat_natCast, ne_eq, zz] at h); (try simp only [nc] at h)) | refine Ob.mk ?_ ?_ | refine Chk.mk (by kernel_rfl) ?_ | refine Eq'.mk ?_ | (refine AllN.mk fun i hi => ?_; cbv) | (refine AllC.mk fun c hc hcm => ?_; (try dsimp only at hc); cbv) | (refine AllS.mk fun r hr => ?_; (try simp only [Dat.ok, Dat.dec, Leaf.ok, Leaf.val, Span.eta, Set.eta, Task.eta, Done.eta, job.eta, Late.eta, val_sl] at hr); cbv)
      all_goals first
        | (simp; done)
        | fail
    · cbv
      repeat' first | (refine Stp.mk ?_; cbv) | (refine Gen.mk fun r hr => ?_; (try simp only [Dat.ok, Dat.dec, Leaf.ok, Leaf.val, Span.eta, Set.eta, Task.eta, Done.eta, job.eta, Late.eta, val_sl, val_nil] at hr); cbv) | exact trivial | rfl | refine Both.mk ?_ ?_ | (refine Imp.mk fun h => ?_; (try dsimp only at h); (try simp only [nc, Int.toNat_natCast, ne_eq, zz] at h); (try simp only [nc] at h)) | refine Ob.mk ?_ ?_ | refine Chk.mk (by kernel_rfl) ?_ | refine Eq'.mk ?_ | (refine AllN.mk fun i hi => ?_; cbv) | (refine AllC.mk fun c hc hcm => ?_; (try dsimp only at hc); cbv) | (refine AllS.mk fun r hr => ?_; (try simp only [Dat.ok, Dat.dec, Leaf.ok, Leaf.val, Span.eta, Set.eta, Task.eta, Done.eta, job.eta, Late.eta, val_sl] at hr); cbv)
      all_goals ((try dsimp only at *); (try simp only [nc, Int.toNat_natCast, ne_eq, zz] at *); (try simp only [nc] at *))
      all_goals first
        | (rw [gd_snoc out _ Dat.d0 i (by assumption)]; generalize decide (i < out.length) = c9; cases c9 <;> rfl)
        | (simp; done)
        | fail
  · have hpa : p < all.length := by omega
    have hb : ¬ lateB m u (all.getD p Dat.d0) = true := by
      unfold lateB
      intro hb
      rw [Bool.and_eq_true, decide_eq_true_eq, Bool.or_eq_true, decide_eq_true_eq] at hb
      obtain ⟨h8, h9⟩ := hb
      rcases h9 with h9 | h9
      · first
          | omega
          | (rw [show (mget [(all.getD p Dat.d0).done.task, (all.getD p Dat.d0).done.job] m).isSome = true by assumption] at h9; exact Bool.noConfusion h9)
      · omega
    refine ⟨⟨p + 1, out, by omega, by omega, ?_⟩, ?_, ?_, rfl, by (try dsimp only); omega⟩
    · rw [he, latesL_step hpa, if_neg hb]
      rfl
    iterate 2
      · cbv
        repeat' first | (refine Stp.mk ?_; cbv) | (refine Gen.mk fun r hr => ?_; (try simp only [Dat.ok, Dat.dec, Leaf.ok, Leaf.val, Span.eta, Set.eta, Task.eta, Done.eta, job.eta, Late.eta, val_sl, val_nil] at hr); cbv) | exact trivial | rfl | refine Both.mk ?_ ?_ | (refine Imp.mk fun h => ?_; (try dsimp only at h); (try simp only [nc, Int.toNat_natCast, ne_eq, zz] at h); (try simp only [nc] at h)) | refine Ob.mk ?_ ?_ | refine Chk.mk (by kernel_rfl) ?_ | refine Eq'.mk ?_ | (refine AllN.mk fun i hi => ?_; cbv) | (refine AllC.mk fun c hc hcm => ?_; (try dsimp only at hc); cbv) | (refine AllS.mk fun r hr => ?_; (try simp only [Dat.ok, Dat.dec, Leaf.ok, Leaf.val, Span.eta, Set.eta, Task.eta, Done.eta, job.eta, Late.eta, val_sl] at hr); cbv)
  · have hpa : p < all.length := by omega
    have hb : ¬ lateB m u (all.getD p Dat.d0) = true := by
      unfold lateB
      intro hb
      rw [Bool.and_eq_true, decide_eq_true_eq, Bool.or_eq_true, decide_eq_true_eq] at hb
      obtain ⟨h8, h9⟩ := hb
      rcases h9 with h9 | h9
      · first
          | omega
          | (rw [show (mget [(all.getD p Dat.d0).done.task, (all.getD p Dat.d0).done.job] m).isSome = true by assumption] at h9; exact Bool.noConfusion h9)
      · omega
    refine ⟨⟨p + 1, out, by omega, by omega, ?_⟩, ?_, ?_, rfl, by (try dsimp only); omega⟩
    · rw [he, latesL_step hpa, if_neg hb]
      rfl
    iterate 2
      · cbv
        repeat' first | (refine Stp.mk ?_; cbv) | (refine Gen.mk fun r hr => ?_; (try simp only [Dat.ok, Dat.dec, Leaf.ok, Leaf.val, Span.eta, Set.eta, Task.eta, Done.eta, job.eta, Late.eta, val_sl, val_nil] at hr); cbv) | exact trivial | rfl | refine Both.mk ?_ ?_ | (refine Imp.mk fun h => ?_; (try dsimp only at h); (try simp only [nc, Int.toNat_natCast, ne_eq, zz] at h); (try simp only [nc] at h)) | refine Ob.mk ?_ ?_ | refine Chk.mk (by kernel_rfl) ?_ | refine Eq'.mk ?_ | (refine AllN.mk fun i hi => ?_; cbv) | (refine AllC.mk fun c hc hcm => ?_; (try dsimp only at hc); cbv) | (refine AllS.mk fun r hr => ?_; (try simp only [Dat.ok, Dat.dec, Leaf.ok, Leaf.val, Span.eta, Set.eta, Task.eta, Done.eta, job.eta, Late.eta, val_sl] at hr); cbv)
  · refine fin1 _ _ _ _ _ ?_
    rw [he, List.drop_eq_nil_of_le (by omega)]
    show (out ++ [], (0 : Int)) = _
    rw [List.append_nil]
theorem latesC_ok : PcOk Try.prog 15 (latesC_C) := fun A K h => by
  unfold latesC_C at h
  split at h
  · rename_i l first done u
    cases h with
    | mk h1 h2 =>
      obtain ⟨g0, g1, g2, hp⟩ := h1
      refine FnOk.pre ?_ (A' := [Leaf.av fun _ => (Leaf.val l : (List Task)), Leaf.av fun _ => (Leaf.val first : (List Int)), Leaf.av fun _ => (Leaf.val done : (List Done)), .i .i64 fun _ => u ()]) (.mk (Leaf.hle _ g0) (.mk (Leaf.hle _ g1) (.mk (Leaf.hle _ g2) (.mk (.mk (.mk rfl) (.mk rfl)) (trivial)))))
      exact FnOk.out (K := fun r H _ => K r H) (latesC_vc (Leaf.val l) (Leaf.val first) (Leaf.val done) (u ()) hp) rfl h2.out
  · cases h

end Go.Proofs.Ytcnfdohlgmipoaa
