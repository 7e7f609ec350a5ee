/- slices.SortStableFunc of jobs: two sorted parts merged in place. -/
import Derived.Test.YtcnfdohlgmipoaaStJR
import Derived.Test.YtcnfdohlgmipoaaBs
set_option linter.all false
namespace Go.Proofs.Ytcnfdohlgmipoaa
open Go Go.Abs

def symJ_P (l : List job) (a : Int) (m : Int) (b : Int) : Prop := 0 ≤ a ∧ a < m ∧ m < b ∧ b ≤ l.length ∧ l.length ≤ 1048576 ∧ SrtJ (cutJ l a.toNat m.toNat) ∧ SrtJ (cutJ l m.toNat b.toNat)
def symJ_F (l : List job) (a : Int) (m : Int) (b : Int) : List job := segS l a.toNat b.toNat
def symJ_S : OwnS job := { pre := fun r l => match r with | [.i .i64 a, .i .i64 m, .i .i64 b, .fn 29 []] => symJ_P l (a ()) (m ()) (b ()) | _ => False, fin := fun r l => match r with | [.i .i64 a, .i .i64 m, .i .i64 b, .fn 29 []] => symJ_F l (a ()) (m ()) (b ()) | _ => l, res := none, kl := false }
noncomputable def symJ_K : Con := ownCon job 70 symJ_S
theorem swp_d {P Q : List job} {x y : job} {i p : Nat} (f : job → Int) (hp : P.length = p) (hi : i < (P ++ [y] ++ [x] ++ Q).length) :
    (bif decide (i = p + 1) then f ((P ++ [y] ++ [x] ++ Q).getD p Dat.d0) else bif decide (i = p) then f ((P ++ [y] ++ [x] ++ Q).getD (p + 1) Dat.d0) else f ((P ++ [y] ++ [x] ++ Q).getD i Dat.d0)) = f ((P ++ [x] ++ [y] ++ Q).getD i Dat.d0) := by
  rw [← swp_c f hp hi]
  by_cases h1 : i = p
  · rw [decide_eq_true h1, decide_eq_false (show ¬ i = p + 1 by omega)]; rfl
  · rw [decide_eq_false h1]; rfl
theorem cutJ_snoc {l : List job} {a k : Nat} (h1 : a ≤ k) (h2 : k < l.length) : cutJ l a (k + 1) = cutJ l a k ++ [l.getD k jd0] := by
  rw [← cutJ_app h1 (Nat.le_succ k)]
  congr 1
  unfold cutJ
  rw [show k + 1 - k = 1 by omega, List.drop_eq_getElem_cons h2, List.getD_eq_getElem?_getD, List.getElem?_eq_getElem h2]
  rfl
theorem cutJ_cons {l : List job} {a b : Nat} (h1 : a < b) (h2 : b ≤ l.length) : cutJ l a b = l.getD a jd0 :: cutJ l (a + 1) b := by
  have h3 : a < l.length := by omega
  unfold cutJ
  rw [List.drop_eq_getElem_cons h3, show b - a = (b - (a + 1)) + 1 by omega, List.take_succ_cons, List.getD_eq_getElem?_getD, List.getElem?_eq_getElem h3]
  rfl
theorem drop_getD {l : List job} {k : Nat} (h : k < l.length) : l.drop k = l.getD k jd0 :: l.drop (k + 1) := by
  rw [List.drop_eq_getElem_cons h, List.getD_eq_getElem?_getD, List.getElem?_eq_getElem h]; rfl
theorem srt_sub {l : List job} {a b c d : Nat} (h : SrtJ (cutJ l a d)) (h1 : a ≤ b) (h2 : b ≤ c) (h3 : c ≤ d) : SrtJ (cutJ l b c) := by
  rw [← cutJ_app h1 (Nat.le_trans h2 h3)] at h
  have h := (List.pairwise_append.1 h).2.1
  rw [← cutJ_app h2 h3] at h
  exact (List.pairwise_append.1 h).1
structure SbX (l : List job) (M B : Nat) (lt le : job → Prop) where
  i : Nat
  j : Nat
  h1 : M ≤ i
  h2 : i ≤ j
  h3 : j ≤ B
  p1 : M < i → lt (l.getD (i - 1) jd0)
  p2 : j < B → le (l.getD j jd0)
structure GnX (l : List job) (n lo hi : Nat) where
  s : Nat
  r : Nat
  h1 : lo ≤ s
  h2 : s ≤ r
  h3 : r ≤ hi
  p1 : lo < s → (l.getD (s - 1) jd0).done.came ≤ (l.getD (n - s) jd0).done.came
  p2 : r < hi → (l.getD (n - 1 - r) jd0).done.came < (l.getD r jd0).done.came
structure StX (lo hi : Nat) where
  k : Nat
  h1 : lo ≤ k
  h2 : k ≤ hi
theorem seg_front {l : List job} {A B i : Nat} (h1 : A + 1 ≤ i) (h2 : i ≤ B) (h3 : B ≤ l.length) (sB : SrtJ (cutJ l (A + 1) B)) (p1 : A + 1 < i → (l.getD (i - 1) jd0).done.came < (l.getD A jd0).done.came) (p2 : i < B → (l.getD A jd0).done.came ≤ (l.getD i jd0).done.came) :
    l.take A ++ cutJ l (A + 1) i ++ [l.getD A jd0] ++ l.drop i = segS l A B := by
  unfold segS
  show _ = l.take A ++ sortS (cutJ l A B) ++ l.drop B
  have e1 : cutJ l A B = l.getD A jd0 :: (cutJ l (A + 1) i ++ cutJ l i B) := by rw [cutJ_cons (by omega) h3, cutJ_app h1 h2]
  have hs : SrtJ (cutJ l (A + 1) i ++ cutJ l i B) := by rw [cutJ_app h1 h2]; exact sB
  have hs2 := List.pairwise_append.1 hs
  rw [e1, merge_one hs]
  · have e2 : l.drop i = cutJ l i B ++ l.drop B := by
      have := List.take_append_drop (B - i) (l.drop i)
      rw [List.drop_drop, show i + (B - i) = B by omega] at this
      exact this.symm
    rw [e2]; simp
  · intro y hy
    refine all_lt (B := [l.getD A jd0]) hs2.1 (by simp) (fun a b ha hb => ?_) y hy _ (by simp)
    cases hb
    have hlt : A + 1 < i := by
      rcases Nat.lt_or_ge (A + 1) i with h | h
      · exact h
      · have : cutJ l (A + 1) i = [] := List.eq_nil_of_length_eq_zero (by rw [cutJ_len (by omega)]; omega)
        rw [this] at ha; cases ha
    rw [cutJ_last hlt (by omega) ha]
    exact p1 hlt
  · intro y hy
    refine all_le (A := [l.getD A jd0]) (by simp) hs2.2.1 (fun a b ha hb => ?_) _ (by simp) y hy
    cases ha
    obtain ⟨q1, q2⟩ := cutJ_head hb
    rw [q1]
    exact p2 q2
theorem seg_back {l : List job} {A M i : Nat} (h1 : A ≤ i) (h2 : i ≤ M) (h3 : M < l.length) (sA : SrtJ (cutJ l A M)) (p1 : A < i → (l.getD (i - 1) jd0).done.came ≤ (l.getD M jd0).done.came) (p2 : i < M → (l.getD M jd0).done.came < (l.getD i jd0).done.came) :
    l.take i ++ [l.getD M jd0] ++ (cutJ l i M ++ l.drop (M + 1)) = segS l A (M + 1) := by
  unfold segS
  show _ = l.take A ++ sortS (cutJ l A (M + 1)) ++ l.drop (M + 1)
  have e1 : cutJ l A (M + 1) = (cutJ l A i ++ cutJ l i M) ++ [l.getD M jd0] := by rw [cutJ_snoc (by omega) h3, cutJ_app h1 h2]
  have hs : SrtJ (cutJ l A i ++ cutJ l i M) := by rw [cutJ_app h1 h2]; exact sA
  have hs2 := List.pairwise_append.1 hs
  rw [e1, put_one hs]
  · have e2 : l.take i = l.take A ++ cutJ l A i := by
      unfold cutJ
      have := List.take_append_drop A (l.take i)
      rw [List.take_take, List.drop_take, show min A i = A by omega] at this
      exact this.symm
    rw [e2]; simp
  · intro y hy
    refine all_le (B := [l.getD M jd0]) hs2.1 (by simp) (fun a b ha hb => ?_) y hy _ (by simp)
    cases hb
    have hlt : A < i := by
      rcases Nat.lt_or_ge A i with h | h
      · exact h
      · have : cutJ l A i = [] := List.eq_nil_of_length_eq_zero (by rw [cutJ_len (by omega)]; omega)
        rw [this] at ha; cases ha
    rw [cutJ_last hlt (by omega) ha]
    exact p1 hlt
  · intro y hy
    refine all_lt (A := [l.getD M jd0]) (by simp) hs2.2.1 (fun a b ha hb => ?_) _ (by simp) y hy
    cases ha
    obtain ⟨q1, q2⟩ := cutJ_head hb
    rw [q1]
    exact p2 q2
def symB_S (N : Nat) : OwnS job := { pre := fun r l => match r with | [.i .i64 a, .i .i64 m, .i .i64 b, .fn 29 []] => symJ_P l (a ()) (m ()) (b ()) ∧ (b () - a ()).toNat < N | _ => False, fin := fun r l => match r with | [.i .i64 a, .i .i64 m, .i .i64 b, .fn 29 []] => symJ_F l (a ()) (m ()) (b ()) | _ => l, res := none, kl := false }
noncomputable def cSym (N : Nat) : FuncId → Con := fun f => match f with
  | 59 => rotR_K
  | 53 => ownCon job 70 (symB_S N)
  | _ => fun _ _ _ => Bad 1001
def symOk (l : List job) (a m b : Int) : Prop := FnOk Try.prog 53 [.own 0 fun _ => l.length, .i .i64 fun _ => a, .i .i64 fun _ => m, .i .i64 fun _ => b, .fn 29 []] [vecO 70 fun _ => l] (outLe 1 (.tup []) [vecO 70 fun _ => symJ_F l a m b] [])
theorem cSym_ok {N : Nat} (ih : ∀ l a m b, symJ_P l a m b → (b - a).toNat < N → symOk l a m b) : ConOk Try.prog (cSym N) := fun f A H K h => by
  unfold cSym at h
  split at h
  · exact ⟨⟨Try.f59, Try.func59, by kernel_rfl, by kernel_rfl⟩, rotR_ok h⟩
  · exact ⟨⟨Try.f53, Try.func53, by kernel_rfl, by kernel_rfl⟩, ownCon_ok (fun _ _ h => by cases h) (fun rest d _ hp => by
      have hp : (match (generalizing := false) rest with | [.i .i64 a, .i .i64 m, .i .i64 b, .fn 29 []] => symJ_P d (a ()) (m ()) (b ()) ∧ (b () - a ()).toNat < N | _ => False) := hp
      split at hp
      · rename_i a m b _ _; exact ih d (a ()) (m ()) (b ()) hp.1 hp.2
      · cases hp) h⟩
  · cases h
set_option maxRecDepth 100000 in
set_option maxHeartbeats 4000000 in
theorem sym_step {N : Nat} (ih : ∀ l a m b, symJ_P l a m b → (b - a).toNat < N → symOk l a m b) (l : List job) (A M B : Nat) (k1 : A < M) (k2 : M < B) (k3 : B ≤ l.length) (k4 : l.length ≤ 1048576) (sA : SrtJ (cutJ l A M)) (sB : SrtJ (cutJ l M B)) (hN : B - A ≤ N) : symOk l A M B := by
  unfold symOk
  have hmAB : IntKind.i64.wrap (bShr .u64 (IntKind.u64.wrap ((A : Int) + (B : Int))) 1) = ((A : Int) + (B : Int)) / 2 := mid_eq (by omega) (by omega) (by omega)
  refine fn_ok envOk zl (cSym_ok ih) (draws_ok envOk zl dIj_ok mixed) (keep := [0, 1, 2, 3, 4, 10, 11, 12, 13, 14, 15, 16, 17, 18, 19, 20, 21, 22, 23, 24, 28, 33, 50, 58, 80, 85, 103, 110, 140, 151, 171, 185, 199, 213]) Try.func53 rfl ?_
  cbv
  repeat' first | (show Stp _; exfalso; first | omega | (exact h ‹_›) | (exact absurd ‹_› h) | (exact Bool.false_ne_true (h.symm.trans (show _ = true by assumption)))) | (refine Stp.mk ?_; cbv) | (refine Gen.mk fun r hr => ?_; (try simp only [Dat.ok, Dat.dec, Leaf.ok, Leaf.val, Span.eta, Set.eta, Task.eta, Done.eta, job.eta, Late.eta, val_sl, val_nil] at hr); cbv) | exact trivial | rfl | refine Both.mk ?_ ?_ | (refine Imp.mk fun h => ?_; (try dsimp only at h); (try simp only [nc, Int.toNat_natCast, ne_eq, zz] at h); (try simp only [nc] at h)) | refine Ob.mk ?_ ?_ | refine Chk.mk (by kernel_rfl) ?_ | refine Eq'.mk ?_ | (refine AllN.mk fun i hi => ?_; cbv) | (refine AllC.mk fun c hc hcm => ?_; (try dsimp only at hc); cbv) | (refine AllS.mk fun r hr => ?_; (try simp only [Dat.ok, Dat.dec, Leaf.ok, Leaf.val, Span.eta, Set.eta, Task.eta, Done.eta, job.eta, Late.eta, val_sl] at hr); cbv)
  all_goals ((try dsimp only at *); (try simp only [nc, Int.toNat_natCast, ne_eq, zz] at *); (try simp only [nc] at *))
  all_goals first
    | omega
    | (unfold InR; omega)
    | skip
  · have hM : M = A + 1 := by omega
    subst hM
    refine LoopVC.frame [10, 11, 12, 33, 50] (SbX l (A + 1) B (fun y => y.done.came < (l.getD A jd0).done.came) (fun y => (l.getD A jd0).done.came ≤ y.done.came)) (fun x => [(10, .i .i64 fun _ => x.i), (11, .i .i64 fun _ => x.j)]) (fun _ => []) [] (fun x => x.j - x.i)
      ⟨A + 1, B, Nat.le_refl _, by omega, Nat.le_refl _, fun h => absurd h (Nat.lt_irrefl _), fun h => absurd h (Nat.lt_irrefl _)⟩ rfl (fun _ => rfl) ?_ ?_ fun ⟨n, j, g1, g2, g3, p1, p2⟩ => ?_
    iterate 2
      · cbv
        repeat' first | (refine Stp.mk ?_; cbv) | (refine Gen.mk fun r hr => ?_; (try simp only [Dat.ok, Dat.dec, Leaf.ok, Leaf.val, Span.eta, Set.eta, Task.eta, Done.eta, job.eta, Late.eta, val_sl, val_nil] at hr); cbv) | exact trivial | rfl | refine Both.mk ?_ ?_ | (refine Imp.mk fun h => ?_; (try dsimp only at h); (try simp only [nc, Int.toNat_natCast, ne_eq, zz] at h); (try simp only [nc] at h)) | refine Ob.mk ?_ ?_ | refine Chk.mk (by kernel_rfl) ?_ | refine Eq'.mk ?_ | (refine AllN.mk fun i hi => ?_; cbv) | (refine AllC.mk fun c hc hcm => ?_; (try dsimp only at hc); cbv) | (refine AllS.mk fun r hr => ?_; (try simp only [Dat.ok, Dat.dec, Leaf.ok, Leaf.val, Span.eta, Set.eta, Task.eta, Done.eta, job.eta, Late.eta, val_sl] at hr); cbv)
    have hm := mid_eq (a := (n : Int)) (b := (j : Int)) (by omega) (by omega) (by omega)
    have hc : ((n : Int) + (j : Int)) / 2 = (((n + j) / 2 : Nat) : Int) := by omega
    rw [hc] at hm
    cbv
    repeat' first | (show Stp _; exfalso; first | omega | (exact h ‹_›) | (exact absurd ‹_› h) | (exact Bool.false_ne_true (h.symm.trans (show _ = true by assumption)))) | (refine Stp.mk ?_; cbv) | (refine Gen.mk fun r hr => ?_; (try simp only [Dat.ok, Dat.dec, Leaf.ok, Leaf.val, Span.eta, Set.eta, Task.eta, Done.eta, job.eta, Late.eta, val_sl, val_nil] at hr); cbv) | exact trivial | rfl | refine Both.mk ?_ ?_ | (refine Imp.mk fun h => ?_; (try dsimp only at h); (try simp only [nc, Int.toNat_natCast, ne_eq, zz] at h); (try simp only [nc] at h)) | refine Ob.mk ?_ ?_ | refine Chk.mk (by kernel_rfl) ?_ | refine Eq'.mk ?_ | (refine AllN.mk fun i hi => ?_; cbv) | (refine AllC.mk fun c hc hcm => ?_; (try dsimp only at hc); cbv) | (refine AllS.mk fun r hr => ?_; (try simp only [Dat.ok, Dat.dec, Leaf.ok, Leaf.val, Span.eta, Set.eta, Task.eta, Done.eta, job.eta, Late.eta, val_sl] at hr); cbv)
    all_goals ((try dsimp only at *); (try simp only [nc, Int.toNat_natCast, ne_eq, zz] at *); (try simp only [nc] at *))
    all_goals try rw [hm]
    all_goals try rw [Int.toNat_natCast]
    all_goals first
      | omega
      | (unfold InR; omega)
      | exact ⟨by omega, by omega⟩
      | exact ⟨⟨trivial, trivial, trivial, trivial, trivial, trivial⟩, ⟨trivial, trivial, trivial, trivial, trivial, trivial⟩⟩
      | skip
    · rw [hm, Int.toNat_natCast] at h
      have hlt := cmpV_neg.1 (show cmpV (l.getD ((n + j) / 2) jd0).done.came (l.getD A jd0).done.came < 0 from h)
      refine ⟨⟨(n + j) / 2 + 1, j, by omega, by omega, g3, fun _ => hlt, p2⟩, ?_, ?_, rfl, by (try dsimp only); omega⟩
      iterate 2
        · cbv
          repeat' first | (refine Stp.mk ?_; cbv) | (refine Gen.mk fun r hr => ?_; (try simp only [Dat.ok, Dat.dec, Leaf.ok, Leaf.val, Span.eta, Set.eta, Task.eta, Done.eta, job.eta, Late.eta, val_sl, val_nil] at hr); cbv) | exact trivial | rfl | refine Both.mk ?_ ?_ | (refine Imp.mk fun h => ?_; (try dsimp only at h); (try simp only [nc, Int.toNat_natCast, ne_eq, zz] at h); (try simp only [nc] at h)) | refine Ob.mk ?_ ?_ | refine Chk.mk (by kernel_rfl) ?_ | refine Eq'.mk ?_ | (refine AllN.mk fun i hi => ?_; cbv) | (refine AllC.mk fun c hc hcm => ?_; (try dsimp only at hc); cbv) | (refine AllS.mk fun r hr => ?_; (try simp only [Dat.ok, Dat.dec, Leaf.ok, Leaf.val, Span.eta, Set.eta, Task.eta, Done.eta, job.eta, Late.eta, val_sl] at hr); cbv)
    · rw [hm, Int.toNat_natCast] at h
      have hlt : ¬ (l.getD ((n + j) / 2) jd0).done.came < (l.getD A jd0).done.came := fun q => Int.not_lt.2 h (cmpV_neg.2 q)
      refine ⟨⟨n, (n + j) / 2, g1, by omega, by omega, p1, fun _ => Int.not_lt.1 hlt⟩, ?_, ?_, rfl, by (try dsimp only); omega⟩
      iterate 2
        · cbv
          repeat' first | (refine Stp.mk ?_; cbv) | (refine Gen.mk fun r hr => ?_; (try simp only [Dat.ok, Dat.dec, Leaf.ok, Leaf.val, Span.eta, Set.eta, Task.eta, Done.eta, job.eta, Late.eta, val_sl, val_nil] at hr); cbv) | exact trivial | rfl | refine Both.mk ?_ ?_ | (refine Imp.mk fun h => ?_; (try dsimp only at h); (try simp only [nc, Int.toNat_natCast, ne_eq, zz] at h); (try simp only [nc] at h)) | refine Ob.mk ?_ ?_ | refine Chk.mk (by kernel_rfl) ?_ | refine Eq'.mk ?_ | (refine AllN.mk fun i hi => ?_; cbv) | (refine AllC.mk fun c hc hcm => ?_; (try dsimp only at hc); cbv) | (refine AllS.mk fun r hr => ?_; (try simp only [Dat.ok, Dat.dec, Leaf.ok, Leaf.val, Span.eta, Set.eta, Task.eta, Done.eta, job.eta, Late.eta, val_sl] at hr); cbv)
    · have hij : n = j := by omega
      subst hij
      have hfin := seg_front (l := l) (A := A) (B := B) g1 g3 k3 sB p1 p2
      have hst : l = (l.take A ++ cutJ l (A + 1) (A + 1)) ++ [l.getD A jd0] ++ l.drop (A + 1) := by
        have e : cutJ l (A + 1) (A + 1) = [] := by unfold cutJ; simp
        have e2 := List.take_append_drop A l
        rw [drop_getD (show A < l.length by omega)] at e2
        rw [e]
        simpa using e2.symm
      refine LoopVC.frame [13, 58] (StX A (n - 1)) (fun x => [(13, .i .i64 fun _ => x.k)]) (fun x => [(0, vecO 70 fun _ => (l.take A ++ cutJ l (A + 1) (x.k + 1)) ++ [l.getD A jd0] ++ l.drop (x.k + 1))]) [] (fun x => (n - 1) - x.k)
        ⟨A, Nat.le_refl _, by omega⟩ rfl (fun _ => rfl) ?_ ?_ fun ⟨k, q1, q2⟩ => ?_
      · cbv
        repeat' first | (refine Stp.mk ?_; cbv) | (refine Gen.mk fun r hr => ?_; (try simp only [Dat.ok, Dat.dec, Leaf.ok, Leaf.val, Span.eta, Set.eta, Task.eta, Done.eta, job.eta, Late.eta, val_sl, val_nil] at hr); cbv) | exact trivial | rfl | refine Both.mk ?_ ?_ | (refine Imp.mk fun h => ?_; (try dsimp only at h); (try simp only [nc, Int.toNat_natCast, ne_eq, zz] at h); (try simp only [nc] at h)) | refine Ob.mk ?_ ?_ | refine Chk.mk (by kernel_rfl) ?_ | refine Eq'.mk ?_ | (refine AllN.mk fun i hi => ?_; cbv) | (refine AllC.mk fun c hc hcm => ?_; (try dsimp only at hc); cbv) | (refine AllS.mk fun r hr => ?_; (try simp only [Dat.ok, Dat.dec, Leaf.ok, Leaf.val, Span.eta, Set.eta, Task.eta, Done.eta, job.eta, Late.eta, val_sl] at hr); cbv)
      · rw [← hst]
        cbv
        repeat' first | (refine Stp.mk ?_; cbv) | (refine Gen.mk fun r hr => ?_; (try simp only [Dat.ok, Dat.dec, Leaf.ok, Leaf.val, Span.eta, Set.eta, Task.eta, Done.eta, job.eta, Late.eta, val_sl, val_nil] at hr); cbv) | exact trivial | rfl | refine Both.mk ?_ ?_ | (refine Imp.mk fun h => ?_; (try dsimp only at h); (try simp only [nc, Int.toNat_natCast, ne_eq, zz] at h); (try simp only [nc] at h)) | refine Ob.mk ?_ ?_ | refine Chk.mk (by kernel_rfl) ?_ | refine Eq'.mk ?_ | (refine AllN.mk fun i hi => ?_; cbv) | (refine AllC.mk fun c hc hcm => ?_; (try dsimp only at hc); cbv) | (refine AllS.mk fun r hr => ?_; (try simp only [Dat.ok, Dat.dec, Leaf.ok, Leaf.val, Span.eta, Set.eta, Task.eta, Done.eta, job.eta, Late.eta, val_sl] at hr); cbv)
      have hkl : k + 1 ≤ l.length := by omega
      have hP : (l.take A ++ cutJ l (A + 1) (k + 1)).length = k := by rw [List.length_append, cutJ_len hkl, List.length_take]; omega
      have hL : (l.take A ++ cutJ l (A + 1) (k + 1) ++ [l.getD A jd0] ++ l.drop (k + 1)).length = l.length := by
        rw [List.length_append, List.length_append, hP, List.length_drop, List.length_singleton]; omega
      have ek : ((k : Int) + 1).toNat = k + 1 := by omega
      cbv
      repeat' first | (show Stp _; exfalso; first | omega | (exact h ‹_›) | (exact absurd ‹_› h) | (exact Bool.false_ne_true (h.symm.trans (show _ = true by assumption)))) | (refine Stp.mk ?_; cbv) | (refine Gen.mk fun r hr => ?_; (try simp only [Dat.ok, Dat.dec, Leaf.ok, Leaf.val, Span.eta, Set.eta, Task.eta, Done.eta, job.eta, Late.eta, val_sl, val_nil] at hr); cbv) | exact trivial | rfl | refine Both.mk ?_ ?_ | (refine Imp.mk fun h => ?_; (try dsimp only at h); (try simp only [nc, Int.toNat_natCast, ne_eq, zz] at h); (try simp only [nc] at h)) | refine Ob.mk ?_ ?_ | refine Chk.mk (by kernel_rfl) ?_ | refine Eq'.mk ?_ | (refine AllN.mk fun i hi => ?_; cbv) | (refine AllC.mk fun c hc hcm => ?_; (try dsimp only at hc); cbv) | (refine AllS.mk fun r hr => ?_; (try simp only [Dat.ok, Dat.dec, Leaf.ok, Leaf.val, Span.eta, Set.eta, Task.eta, Done.eta, job.eta, Late.eta, val_sl] at hr); cbv)
      all_goals ((try dsimp only at *); (try simp only [nc, Int.toNat_natCast, ne_eq, zz] at *); (try simp only [nc] at *))
      all_goals try rw [ek]
      all_goals first
        | omega
        | (unfold InR; omega)
        | exact ⟨by omega, by omega⟩
        | (rw [hL]; omega)
        | skip
      · have hk2 : k + 1 < l.length := by omega
        have h1 : l.take A ++ cutJ l (A + 1) (k + 1) ++ [l.getD A jd0] ++ l.drop (k + 1) = (l.take A ++ cutJ l (A + 1) (k + 1)) ++ [l.getD A jd0] ++ [l.getD (k + 1) jd0] ++ l.drop (k + 1 + 1) := by
          rw [drop_getD hk2]; simp
        have h2 : l.take A ++ cutJ l (A + 1) (k + 1 + 1) ++ [l.getD A jd0] ++ l.drop (k + 1 + 1) = (l.take A ++ cutJ l (A + 1) (k + 1)) ++ [l.getD (k + 1) jd0] ++ [l.getD A jd0] ++ l.drop (k + 1 + 1) := by
          rw [cutJ_snoc (show A + 1 ≤ k + 1 by omega) hk2]; simp
        refine ⟨⟨k + 1, by omega, by omega⟩, ?_, ?_, rfl, by (try dsimp only); omega⟩
        · cbv
          repeat' first | (refine Stp.mk ?_; cbv) | (refine Gen.mk fun r hr => ?_; (try simp only [Dat.ok, Dat.dec, Leaf.ok, Leaf.val, Span.eta, Set.eta, Task.eta, Done.eta, job.eta, Late.eta, val_sl, val_nil] at hr); cbv) | exact trivial | rfl | refine Both.mk ?_ ?_ | (refine Imp.mk fun h => ?_; (try dsimp only at h); (try simp only [nc, Int.toNat_natCast, ne_eq, zz] at h); (try simp only [nc] at h)) | refine Ob.mk ?_ ?_ | refine Chk.mk (by kernel_rfl) ?_ | refine Eq'.mk ?_ | (refine AllN.mk fun i hi => ?_; cbv) | (refine AllC.mk fun c hc hcm => ?_; (try dsimp only at hc); cbv) | (refine AllS.mk fun r hr => ?_; (try simp only [Dat.ok, Dat.dec, Leaf.ok, Leaf.val, Span.eta, Set.eta, Task.eta, Done.eta, job.eta, Late.eta, val_sl] at hr); cbv)
        · cbv
          repeat' first | (refine Stp.mk ?_; cbv) | (refine Gen.mk fun r hr => ?_; (try simp only [Dat.ok, Dat.dec, Leaf.ok, Leaf.val, Span.eta, Set.eta, Task.eta, Done.eta, job.eta, Late.eta, val_sl, val_nil] at hr); cbv) | exact trivial | rfl | refine Both.mk ?_ ?_ | (refine Imp.mk fun h => ?_; (try dsimp only at h); (try simp only [nc, Int.toNat_natCast, ne_eq, zz] at h); (try simp only [nc] at h)) | refine Ob.mk ?_ ?_ | refine Chk.mk (by kernel_rfl) ?_ | refine Eq'.mk ?_ | (refine AllN.mk fun i hi => ?_; cbv) | (refine AllC.mk fun c hc hcm => ?_; (try dsimp only at hc); cbv) | (refine AllS.mk fun r hr => ?_; (try simp only [Dat.ok, Dat.dec, Leaf.ok, Leaf.val, Span.eta, Set.eta, Task.eta, Done.eta, job.eta, Late.eta, val_sl] at hr); cbv)
          all_goals ((try dsimp only at *); (try simp only [nc, Int.toNat_natCast, ne_eq, zz] at *); (try simp only [nc] at *))
          all_goals first
            | (show _ = ((l.take A ++ cutJ l (A + 1) (k + 1 + 1)) ++ [l.getD A jd0] ++ l.drop (k + 1 + 1)).length
               rw [h2, h1]; simp; done)
            | (have hi2 : i < (l.take A ++ cutJ l (A + 1) (k + 1) ++ [l.getD A jd0] ++ [l.getD (k + 1) jd0] ++ l.drop (k + 1 + 1)).length := by rw [← h1]; exact hi
               have sc := fun f => @swp_d (l.take A ++ cutJ l (A + 1) (k + 1)) (l.drop (k + 1 + 1)) (l.getD (k + 1) jd0) (l.getD A jd0) i k f hP hi2
               try rw [ek]
               rw [h1]
               first
                 | exact (sc fun x => x.done.task).trans (by rw [← h2])
                 | exact (sc fun x => x.done.job).trans (by rw [← h2])
                 | exact (sc fun x => x.done.came).trans (by rw [← h2])
                 | exact (sc fun x => x.done.at_).trans (by rw [← h2])
                 | exact (sc fun x => x.due).trans (by rw [← h2])
                 | exact (sc fun x => x.left).trans (by rw [← h2]))
            | fail
      all_goals (
        have e : l.take A ++ cutJ l (A + 1) (k + 1) ++ [l.getD A jd0] ++ l.drop (k + 1) = symJ_F l (A : Nat) ((A + 1 : Nat) : Int) (B : Nat) := by
          obtain rfl : n = k + 1 := by omega
          exact hfin
        rw [e])
  · have hB : B = M + 1 := by omega
    subst hB
    refine LoopVC.frame [14, 15, 16, 85, 103] (SbX l A M (fun y => y.done.came ≤ (l.getD M jd0).done.came) (fun y => (l.getD M jd0).done.came < y.done.came)) (fun x => [(14, .i .i64 fun _ => x.i), (15, .i .i64 fun _ => x.j)]) (fun _ => []) [] (fun x => x.j - x.i)
      ⟨A, M, Nat.le_refl _, by omega, Nat.le_refl _, fun h => absurd h (Nat.lt_irrefl _), fun h => absurd h (Nat.lt_irrefl _)⟩ rfl (fun _ => rfl) ?_ ?_ fun ⟨n, j, g1, g2, g3, p1, p2⟩ => ?_
    iterate 2
      · cbv
        repeat' first | (refine Stp.mk ?_; cbv) | (refine Gen.mk fun r hr => ?_; (try simp only [Dat.ok, Dat.dec, Leaf.ok, Leaf.val, Span.eta, Set.eta, Task.eta, Done.eta, job.eta, Late.eta, val_sl, val_nil] at hr); cbv) | exact trivial | rfl | refine Both.mk ?_ ?_ | (refine Imp.mk fun h => ?_; (try dsimp only at h); (try simp only [nc, Int.toNat_natCast, ne_eq, zz] at h); (try simp only [nc] at h)) | refine Ob.mk ?_ ?_ | refine Chk.mk (by kernel_rfl) ?_ | refine Eq'.mk ?_ | (refine AllN.mk fun i hi => ?_; cbv) | (refine AllC.mk fun c hc hcm => ?_; (try dsimp only at hc); cbv) | (refine AllS.mk fun r hr => ?_; (try simp only [Dat.ok, Dat.dec, Leaf.ok, Leaf.val, Span.eta, Set.eta, Task.eta, Done.eta, job.eta, Late.eta, val_sl] at hr); cbv)
    have hm := mid_eq (a := (n : Int)) (b := (j : Int)) (by omega) (by omega) (by omega)
    have hc : ((n : Int) + (j : Int)) / 2 = (((n + j) / 2 : Nat) : Int) := by omega
    rw [hc] at hm
    cbv
    repeat' first | (show Stp _; exfalso; first | omega | (exact h ‹_›) | (exact absurd ‹_› h) | (exact Bool.false_ne_true (h.symm.trans (show _ = true by assumption)))) | (refine Stp.mk ?_; cbv) | (refine Gen.mk fun r hr => ?_; (try simp only [Dat.ok, Dat.dec, Leaf.ok, Leaf.val, Span.eta, Set.eta, Task.eta, Done.eta, job.eta, Late.eta, val_sl, val_nil] at hr); cbv) | exact trivial | rfl | refine Both.mk ?_ ?_ | (refine Imp.mk fun h => ?_; (try dsimp only at h); (try simp only [nc, Int.toNat_natCast, ne_eq, zz] at h); (try simp only [nc] at h)) | refine Ob.mk ?_ ?_ | refine Chk.mk (by kernel_rfl) ?_ | refine Eq'.mk ?_ | (refine AllN.mk fun i hi => ?_; cbv) | (refine AllC.mk fun c hc hcm => ?_; (try dsimp only at hc); cbv) | (refine AllS.mk fun r hr => ?_; (try simp only [Dat.ok, Dat.dec, Leaf.ok, Leaf.val, Span.eta, Set.eta, Task.eta, Done.eta, job.eta, Late.eta, val_sl] at hr); cbv)
    all_goals ((try dsimp only at *); (try simp only [nc, Int.toNat_natCast, ne_eq, zz] at *); (try simp only [nc] at *))
    all_goals try rw [hm]
    all_goals try rw [Int.toNat_natCast]
    all_goals first
      | omega
      | (unfold InR; omega)
      | exact ⟨by omega, by omega⟩
      | exact ⟨⟨trivial, trivial, trivial, trivial, trivial, trivial⟩, ⟨trivial, trivial, trivial, trivial, trivial, trivial⟩⟩
      | skip
    · rw [hm, Int.toNat_natCast] at h
      have hlt : ¬ (l.getD M jd0).done.came < (l.getD ((n + j) / 2) jd0).done.came := fun q => Int.not_lt.2 h (cmpV_neg.2 q)
      refine ⟨⟨(n + j) / 2 + 1, j, by omega, by omega, g3, fun _ => Int.not_lt.1 hlt, p2⟩, ?_, ?_, rfl, by (try dsimp only); omega⟩
      iterate 2
        · cbv
          repeat' first | (refine Stp.mk ?_; cbv) | (refine Gen.mk fun r hr => ?_; (try simp only [Dat.ok, Dat.dec, Leaf.ok, Leaf.val, Span.eta, Set.eta, Task.eta, Done.eta, job.eta, Late.eta, val_sl, val_nil] at hr); cbv) | exact trivial | rfl | refine Both.mk ?_ ?_ | (refine Imp.mk fun h => ?_; (try dsimp only at h); (try simp only [nc, Int.toNat_natCast, ne_eq, zz] at h); (try simp only [nc] at h)) | refine Ob.mk ?_ ?_ | refine Chk.mk (by kernel_rfl) ?_ | refine Eq'.mk ?_ | (refine AllN.mk fun i hi => ?_; cbv) | (refine AllC.mk fun c hc hcm => ?_; (try dsimp only at hc); cbv) | (refine AllS.mk fun r hr => ?_; (try simp only [Dat.ok, Dat.dec, Leaf.ok, Leaf.val, Span.eta, Set.eta, Task.eta, Done.eta, job.eta, Late.eta, val_sl] at hr); cbv)
    · rw [hm, Int.toNat_natCast] at h
      have hlt := cmpV_neg.1 (show cmpV (l.getD M jd0).done.came (l.getD ((n + j) / 2) jd0).done.came < 0 from h)
      refine ⟨⟨n, (n + j) / 2, g1, by omega, by omega, p1, fun _ => hlt⟩, ?_, ?_, rfl, by (try dsimp only); omega⟩
      iterate 2
        · cbv
          repeat' first | (refine Stp.mk ?_; cbv) | (refine Gen.mk fun r hr => ?_; (try simp only [Dat.ok, Dat.dec, Leaf.ok, Leaf.val, Span.eta, Set.eta, Task.eta, Done.eta, job.eta, Late.eta, val_sl, val_nil] at hr); cbv) | exact trivial | rfl | refine Both.mk ?_ ?_ | (refine Imp.mk fun h => ?_; (try dsimp only at h); (try simp only [nc, Int.toNat_natCast, ne_eq, zz] at h); (try simp only [nc] at h)) | refine Ob.mk ?_ ?_ | refine Chk.mk (by kernel_rfl) ?_ | refine Eq'.mk ?_ | (refine AllN.mk fun i hi => ?_; cbv) | (refine AllC.mk fun c hc hcm => ?_; (try dsimp only at hc); cbv) | (refine AllS.mk fun r hr => ?_; (try simp only [Dat.ok, Dat.dec, Leaf.ok, Leaf.val, Span.eta, Set.eta, Task.eta, Done.eta, job.eta, Late.eta, val_sl] at hr); cbv)
    · have hij : n = j := by omega
      subst hij
      have hfin := seg_back (l := l) (A := A) (M := M) g1 g3 (by omega) sA p1 p2
      have hst : l = l.take M ++ [l.getD M jd0] ++ (cutJ l M M ++ l.drop (M + 1)) := by
        have e : cutJ l M M = [] := by unfold cutJ; simp
        have e2 := List.take_append_drop M l
        rw [drop_getD (show M < l.length by omega)] at e2
        rw [e]
        simpa using e2.symm
      refine LoopVC.frame [17, 110] (StX n M) (fun x => [(17, .i .i64 fun _ => x.k)]) (fun x => [(0, vecO 70 fun _ => l.take x.k ++ [l.getD M jd0] ++ (cutJ l x.k M ++ l.drop (M + 1)))]) [] (fun x => x.k - n)
        ⟨M, by omega, Nat.le_refl _⟩ rfl (fun _ => rfl) ?_ ?_ fun ⟨k, q1, q2⟩ => ?_
      · cbv
        repeat' first | (refine Stp.mk ?_; cbv) | (refine Gen.mk fun r hr => ?_; (try simp only [Dat.ok, Dat.dec, Leaf.ok, Leaf.val, Span.eta, Set.eta, Task.eta, Done.eta, job.eta, Late.eta, val_sl, val_nil] at hr); cbv) | exact trivial | rfl | refine Both.mk ?_ ?_ | (refine Imp.mk fun h => ?_; (try dsimp only at h); (try simp only [nc, Int.toNat_natCast, ne_eq, zz] at h); (try simp only [nc] at h)) | refine Ob.mk ?_ ?_ | refine Chk.mk (by kernel_rfl) ?_ | refine Eq'.mk ?_ | (refine AllN.mk fun i hi => ?_; cbv) | (refine AllC.mk fun c hc hcm => ?_; (try dsimp only at hc); cbv) | (refine AllS.mk fun r hr => ?_; (try simp only [Dat.ok, Dat.dec, Leaf.ok, Leaf.val, Span.eta, Set.eta, Task.eta, Done.eta, job.eta, Late.eta, val_sl] at hr); cbv)
      · rw [← hst]
        cbv
        repeat' first | (refine Stp.mk ?_; cbv) | (refine Gen.mk fun r hr => ?_; (try simp only [Dat.ok, Dat.dec, Leaf.ok, Leaf.val, Span.eta, Set.eta, Task.eta, Done.eta, job.eta, Late.eta, val_sl, val_nil] at hr); cbv) | exact trivial | rfl | refine Both.mk ?_ ?_ | (refine Imp.mk fun h => ?_; (try dsimp only at h); (try simp only [nc, Int.toNat_natCast, ne_eq, zz] at h); (try simp only [nc] at h)) | refine Ob.mk ?_ ?_ | refine Chk.mk (by kernel_rfl) ?_ | refine Eq'.mk ?_ | (refine AllN.mk fun i hi => ?_; cbv) | (refine AllC.mk fun c hc hcm => ?_; (try dsimp only at hc); cbv) | (refine AllS.mk fun r hr => ?_; (try simp only [Dat.ok, Dat.dec, Leaf.ok, Leaf.val, Span.eta, Set.eta, Task.eta, Done.eta, job.eta, Late.eta, val_sl] at hr); cbv)
      have hL : (l.take k ++ [l.getD M jd0] ++ (cutJ l k M ++ l.drop (M + 1))).length = l.length := by
        rw [List.length_append, List.length_append, List.length_append, cutJ_len (by omega), List.length_take, List.length_drop, List.length_singleton]; omega
      cbv
      repeat' first | (show Stp _; exfalso; first | omega | (exact h ‹_›) | (exact absurd ‹_› h) | (exact Bool.false_ne_true (h.symm.trans (show _ = true by assumption)))) | (refine Stp.mk ?_; cbv) | (refine Gen.mk fun r hr => ?_; (try simp only [Dat.ok, Dat.dec, Leaf.ok, Leaf.val, Span.eta, Set.eta, Task.eta, Done.eta, job.eta, Late.eta, val_sl, val_nil] at hr); cbv) | exact trivial | rfl | refine Both.mk ?_ ?_ | (refine Imp.mk fun h => ?_; (try dsimp only at h); (try simp only [nc, Int.toNat_natCast, ne_eq, zz] at h); (try simp only [nc] at h)) | refine Ob.mk ?_ ?_ | refine Chk.mk (by kernel_rfl) ?_ | refine Eq'.mk ?_ | (refine AllN.mk fun i hi => ?_; cbv) | (refine AllC.mk fun c hc hcm => ?_; (try dsimp only at hc); cbv) | (refine AllS.mk fun r hr => ?_; (try simp only [Dat.ok, Dat.dec, Leaf.ok, Leaf.val, Span.eta, Set.eta, Task.eta, Done.eta, job.eta, Late.eta, val_sl] at hr); cbv)
      all_goals ((try dsimp only at *); (try simp only [nc, Int.toNat_natCast, ne_eq, zz] at *); (try simp only [nc] at *))
      all_goals first
        | omega
        | (unfold InR; omega)
        | exact ⟨by omega, by omega⟩
        | (rw [hL]; omega)
        | skip
      · obtain ⟨p, rfl⟩ : ∃ p, k = p + 1 := ⟨k - 1, by omega⟩
        have ek : (((p + 1 : Nat) : Int) - 1).toNat = p := by omega
        have hP : (l.take p).length = p := by rw [List.length_take]; omega
        have h1 : l.take (p + 1) ++ [l.getD M jd0] ++ (cutJ l (p + 1) M ++ l.drop (M + 1)) = l.take p ++ [l.getD p jd0] ++ [l.getD M jd0] ++ (cutJ l (p + 1) M ++ l.drop (M + 1)) := by
          have e : l.take (p + 1) = l.take p ++ [l.getD p jd0] := by
            rw [List.take_add_one, List.getD_eq_getElem?_getD, List.getElem?_eq_getElem (show p < l.length by omega)]; rfl
          rw [e]
        have h2 : l.take p ++ [l.getD M jd0] ++ (cutJ l p M ++ l.drop (M + 1)) = l.take p ++ [l.getD M jd0] ++ [l.getD p jd0] ++ (cutJ l (p + 1) M ++ l.drop (M + 1)) := by
          rw [cutJ_cons (show p < M by omega) (by omega)]; simp
        refine ⟨⟨p, by omega, by omega⟩, ?_, ?_, rfl, by (try dsimp only); omega⟩
        · cbv
          repeat' first | (refine Stp.mk ?_; cbv) | (refine Gen.mk fun r hr => ?_; (try simp only [Dat.ok, Dat.dec, Leaf.ok, Leaf.val, Span.eta, Set.eta, Task.eta, Done.eta, job.eta, Late.eta, val_sl, val_nil] at hr); cbv) | exact trivial | rfl | refine Both.mk ?_ ?_ | (refine Imp.mk fun h => ?_; (try dsimp only at h); (try simp only [nc, Int.toNat_natCast, ne_eq, zz] at h); (try simp only [nc] at h)) | refine Ob.mk ?_ ?_ | refine Chk.mk (by kernel_rfl) ?_ | refine Eq'.mk ?_ | (refine AllN.mk fun i hi => ?_; cbv) | (refine AllC.mk fun c hc hcm => ?_; (try dsimp only at hc); cbv) | (refine AllS.mk fun r hr => ?_; (try simp only [Dat.ok, Dat.dec, Leaf.ok, Leaf.val, Span.eta, Set.eta, Task.eta, Done.eta, job.eta, Late.eta, val_sl] at hr); cbv)
          show (((p + 1 : Nat) : Int) - 1) = (p : Int)
          omega
        · cbv
          repeat' first | (refine Stp.mk ?_; cbv) | (refine Gen.mk fun r hr => ?_; (try simp only [Dat.ok, Dat.dec, Leaf.ok, Leaf.val, Span.eta, Set.eta, Task.eta, Done.eta, job.eta, Late.eta, val_sl, val_nil] at hr); cbv) | exact trivial | rfl | refine Both.mk ?_ ?_ | (refine Imp.mk fun h => ?_; (try dsimp only at h); (try simp only [nc, Int.toNat_natCast, ne_eq, zz] at h); (try simp only [nc] at h)) | refine Ob.mk ?_ ?_ | refine Chk.mk (by kernel_rfl) ?_ | refine Eq'.mk ?_ | (refine AllN.mk fun i hi => ?_; cbv) | (refine AllC.mk fun c hc hcm => ?_; (try dsimp only at hc); cbv) | (refine AllS.mk fun r hr => ?_; (try simp only [Dat.ok, Dat.dec, Leaf.ok, Leaf.val, Span.eta, Set.eta, Task.eta, Done.eta, job.eta, Late.eta, val_sl] at hr); cbv)
          all_goals ((try dsimp only at *); (try simp only [nc, Int.toNat_natCast, ne_eq, zz] at *); (try simp only [nc] at *))
          all_goals first
            | (show _ = (l.take p ++ [l.getD M jd0] ++ (cutJ l p M ++ l.drop (M + 1))).length
               rw [h2, h1]; simp; done)
            | (have hi2 : i < (l.take p ++ [l.getD p jd0] ++ [l.getD M jd0] ++ (cutJ l (p + 1) M ++ l.drop (M + 1))).length := by rw [← h1]; exact hi
               have sc := fun f => @swp_c (l.take p) (cutJ l (p + 1) M ++ l.drop (M + 1)) (l.getD M jd0) (l.getD p jd0) i p f hP hi2
               try rw [ek]
               rw [h1]
               first
                 | exact (sc fun x => x.done.task).trans (by rw [← h2])
                 | exact (sc fun x => x.done.job).trans (by rw [← h2])
                 | exact (sc fun x => x.done.came).trans (by rw [← h2])
                 | exact (sc fun x => x.done.at_).trans (by rw [← h2])
                 | exact (sc fun x => x.due).trans (by rw [← h2])
                 | exact (sc fun x => x.left).trans (by rw [← h2]))
            | fail
      all_goals (
        have e : l.take k ++ [l.getD M jd0] ++ (cutJ l k M ++ l.drop (M + 1)) = symJ_F l (A : Nat) (M : Nat) ((M + 1 : Nat) : Int) := by
          obtain rfl : n = k := by omega
          exact hfin
        rw [e])
  all_goals (
    have hmd : ∃ md : Nat, IntKind.i64.wrap (bShr .u64 (IntKind.u64.wrap ((A : Int) + (B : Int))) 1) = (md : Int) ∧ A + B ≤ 2 * md + 1 ∧ 2 * md ≤ A + B := ⟨(A + B) / 2, by rw [hmAB]; omega, by omega, by omega⟩
    obtain ⟨md, hmd, y1, y2⟩ := hmd
    generalize IntKind.i64.wrap (bShr .u64 (IntKind.u64.wrap ((A : Int) + (B : Int))) 1) = mdI at *
    subst hmd)
  all_goals first
    | omega
    | (unfold InR; omega)
    | skip
  · have hMd : md < M := by omega
    refine LoopVC.frame [20, 21, 23, 151, 171] (GnX l (md + M) (md + M - B) md) (fun x => [(20, .i .i64 fun _ => x.s), (21, .i .i64 fun _ => x.r)]) (fun _ => []) [] (fun x => x.r - x.s)
      ⟨(md + M - B), md, Nat.le_refl _, by omega, Nat.le_refl _, fun h => absurd h (Nat.lt_irrefl _), fun h => absurd h (Nat.lt_irrefl _)⟩ rfl (fun _ => rfl) ?_ ?_ fun ⟨n, j, g1, g2, g3, p1, p2⟩ => ?_
    · cbv
      repeat' first | (refine Stp.mk ?_; cbv) | (refine Gen.mk fun r hr => ?_; (try simp only [Dat.ok, Dat.dec, Leaf.ok, Leaf.val, Span.eta, Set.eta, Task.eta, Done.eta, job.eta, Late.eta, val_sl, val_nil] at hr); cbv) | exact trivial | rfl | refine Both.mk ?_ ?_ | (refine Imp.mk fun h => ?_; (try dsimp only at h); (try simp only [nc, Int.toNat_natCast, ne_eq, zz] at h); (try simp only [nc] at h)) | refine Ob.mk ?_ ?_ | refine Chk.mk (by kernel_rfl) ?_ | refine Eq'.mk ?_ | (refine AllN.mk fun i hi => ?_; cbv) | (refine AllC.mk fun c hc hcm => ?_; (try dsimp only at hc); cbv) | (refine AllS.mk fun r hr => ?_; (try simp only [Dat.ok, Dat.dec, Leaf.ok, Leaf.val, Span.eta, Set.eta, Task.eta, Done.eta, job.eta, Late.eta, val_sl] at hr); cbv)
      all_goals (show (md : Int) + (M : Nat) - (B : Nat) = ((md + M - B : Nat) : Int); omega)
    · cbv
      repeat' first | (refine Stp.mk ?_; cbv) | (refine Gen.mk fun r hr => ?_; (try simp only [Dat.ok, Dat.dec, Leaf.ok, Leaf.val, Span.eta, Set.eta, Task.eta, Done.eta, job.eta, Late.eta, val_sl, val_nil] at hr); cbv) | exact trivial | rfl | refine Both.mk ?_ ?_ | (refine Imp.mk fun h => ?_; (try dsimp only at h); (try simp only [nc, Int.toNat_natCast, ne_eq, zz] at h); (try simp only [nc] at h)) | refine Ob.mk ?_ ?_ | refine Chk.mk (by kernel_rfl) ?_ | refine Eq'.mk ?_ | (refine AllN.mk fun i hi => ?_; cbv) | (refine AllC.mk fun c hc hcm => ?_; (try dsimp only at hc); cbv) | (refine AllS.mk fun r hr => ?_; (try simp only [Dat.ok, Dat.dec, Leaf.ok, Leaf.val, Span.eta, Set.eta, Task.eta, Done.eta, job.eta, Late.eta, val_sl] at hr); cbv)
    have hm := mid_eq (a := (n : Int)) (b := (j : Int)) (by omega) (by omega) (by omega)
    have hc : ((n : Int) + (j : Int)) / 2 = (((n + j) / 2 : Nat) : Int) := by omega
    rw [hc] at hm
    have hc2 : (md : Int) + (M : Nat) - 1 - (((n + j) / 2 : Nat) : Int) = ((md + M - 1 - (n + j) / 2 : Nat) : Int) := by omega
    cbv
    repeat' first | (show Stp _; exfalso; first | omega | (exact h ‹_›) | (exact absurd ‹_› h) | (exact Bool.false_ne_true (h.symm.trans (show _ = true by assumption)))) | (refine Stp.mk ?_; cbv) | (refine Gen.mk fun r hr => ?_; (try simp only [Dat.ok, Dat.dec, Leaf.ok, Leaf.val, Span.eta, Set.eta, Task.eta, Done.eta, job.eta, Late.eta, val_sl, val_nil] at hr); cbv) | exact trivial | rfl | refine Both.mk ?_ ?_ | (refine Imp.mk fun h => ?_; (try dsimp only at h); (try simp only [nc, Int.toNat_natCast, ne_eq, zz] at h); (try simp only [nc] at h)) | refine Ob.mk ?_ ?_ | refine Chk.mk (by kernel_rfl) ?_ | refine Eq'.mk ?_ | (refine AllN.mk fun i hi => ?_; cbv) | (refine AllC.mk fun c hc hcm => ?_; (try dsimp only at hc); cbv) | (refine AllS.mk fun r hr => ?_; (try simp only [Dat.ok, Dat.dec, Leaf.ok, Leaf.val, Span.eta, Set.eta, Task.eta, Done.eta, job.eta, Late.eta, val_sl] at hr); cbv)
    all_goals ((try dsimp only at *); (try simp only [nc, Int.toNat_natCast, ne_eq, zz] at *); (try simp only [nc] at *))
    all_goals try rw [hm]
    all_goals try rw [hc2]
    all_goals try rw [Int.toNat_natCast]
    all_goals first
      | omega
      | (unfold InR; omega)
      | exact ⟨by omega, by omega⟩
      | exact ⟨⟨trivial, trivial, trivial, trivial, trivial, trivial⟩, ⟨trivial, trivial, trivial, trivial, trivial, trivial⟩⟩
      | skip
    · rw [hm, hc2, Int.toNat_natCast, Int.toNat_natCast] at h
      have hlt : ¬ (l.getD (md + M - 1 - (n + j) / 2) jd0).done.came < (l.getD ((n + j) / 2) jd0).done.came := fun q => Int.not_lt.2 h (cmpV_neg.2 q)
      refine ⟨⟨(n + j) / 2 + 1, j, by omega, by omega, g3, fun _ => by
        rw [show md + M - ((n + j) / 2 + 1) = md + M - 1 - (n + j) / 2 by omega]
        exact Int.not_lt.1 hlt, p2⟩, ?_, ?_, rfl, by (try dsimp only); omega⟩
      iterate 2
        · cbv
          repeat' first | (refine Stp.mk ?_; cbv) | (refine Gen.mk fun r hr => ?_; (try simp only [Dat.ok, Dat.dec, Leaf.ok, Leaf.val, Span.eta, Set.eta, Task.eta, Done.eta, job.eta, Late.eta, val_sl, val_nil] at hr); cbv) | exact trivial | rfl | refine Both.mk ?_ ?_ | (refine Imp.mk fun h => ?_; (try dsimp only at h); (try simp only [nc, Int.toNat_natCast, ne_eq, zz] at h); (try simp only [nc] at h)) | refine Ob.mk ?_ ?_ | refine Chk.mk (by kernel_rfl) ?_ | refine Eq'.mk ?_ | (refine AllN.mk fun i hi => ?_; cbv) | (refine AllC.mk fun c hc hcm => ?_; (try dsimp only at hc); cbv) | (refine AllS.mk fun r hr => ?_; (try simp only [Dat.ok, Dat.dec, Leaf.ok, Leaf.val, Span.eta, Set.eta, Task.eta, Done.eta, job.eta, Late.eta, val_sl] at hr); cbv)
    · rw [hm, hc2, Int.toNat_natCast, Int.toNat_natCast] at h
      have hlt := cmpV_neg.1 (show cmpV (l.getD (md + M - 1 - (n + j) / 2) jd0).done.came (l.getD ((n + j) / 2) jd0).done.came < 0 from h)
      refine ⟨⟨n, (n + j) / 2, g1, by omega, by omega, p1, fun _ => hlt⟩, ?_, ?_, rfl, by (try dsimp only); omega⟩
      iterate 2
        · cbv
          repeat' first | (refine Stp.mk ?_; cbv) | (refine Gen.mk fun r hr => ?_; (try simp only [Dat.ok, Dat.dec, Leaf.ok, Leaf.val, Span.eta, Set.eta, Task.eta, Done.eta, job.eta, Late.eta, val_sl, val_nil] at hr); cbv) | exact trivial | rfl | refine Both.mk ?_ ?_ | (refine Imp.mk fun h => ?_; (try dsimp only at h); (try simp only [nc, Int.toNat_natCast, ne_eq, zz] at h); (try simp only [nc] at h)) | refine Ob.mk ?_ ?_ | refine Chk.mk (by kernel_rfl) ?_ | refine Eq'.mk ?_ | (refine AllN.mk fun i hi => ?_; cbv) | (refine AllC.mk fun c hc hcm => ?_; (try dsimp only at hc); cbv) | (refine AllS.mk fun r hr => ?_; (try simp only [Dat.ok, Dat.dec, Leaf.ok, Leaf.val, Span.eta, Set.eta, Task.eta, Done.eta, job.eta, Late.eta, val_sl] at hr); cbv)
    all_goals (
      try (
        rename (_ = l) => hq
        replace hq := hq.symm
        subst hq)
      try (
        rename (_ = slV _) => hq1
        replace hq1 := hq1.symm
        subst hq1)
      try (
        rename (_ = slV _) => hq2
        replace hq2 := hq2.symm
        subst hq2)
      have hnj : n = j := by omega
      subst hnj
      obtain ⟨X1, X2, hS⟩ : ∃ X1 X2, SymE l A M B md n (md + M - n) X1 X2 := sym_end (by omega) (by omega) (by omega) (by omega) k3 (by omega) sA sB (fun q1 q2 => p1 (by omega)) (fun q1 q2 => by
        have := p2 (by omega)
        rw [show md + M - 1 - n = md + M - n - 1 by omega] at this
        exact this)
      obtain ⟨hX1, hX2, r0, s1, s2, r1, s3, s4, r2, fin, l1, l2⟩ := hS
      have eE : ((md : Int) + (M : Nat) - (n : Nat)).toNat = md + M - n := by omega
      have e1 : rotR_F l (n : Nat) (M : Nat) ((md : Int) + (M : Nat) - (n : Nat)) = X1 := by unfold rotR_F; rw [eE]; exact hX1
      have e2 : symJ_F X1 (A : Nat) (n : Nat) (md : Nat) = X2 := hX2
      have e3 : symJ_F X2 (md : Nat) ((md : Int) + (M : Nat) - (n : Nat)) (B : Nat) = segS l A B := fin
      have e4 : symJ_F l (A : Nat) (M : Nat) (B : Nat) = segS l A B := rfl
      have v0 : slV (.sl 6 (fun _ => l.length) fun i => Dat.enc fun _ => l.getD (i ()) Dat.d0) = l := val_sl l 6
      have v1 : slV (.sl 6 (fun _ => l.length) fun i => Dat.enc fun _ => X1.getD (i ()) Dat.d0) = X1 := val_len 6 l1
      have v2 : slV (.sl 6 (fun _ => l.length) fun i => Dat.enc fun _ => X2.getD (i ()) Dat.d0) = X2 := val_len 6 l2
      try (
        have q := r0 (by omega)
        subst q)
      try (
        have q := r1 (by omega)
        subst q)
      try simp only [e1, e2, e3, e4, v0, v1, v2]
      first
        | done
        | omega
        | (unfold InR; omega)
        | exact ⟨rfl, (by first | rfl | trivial), fun i _ => Dat.hok _, by omega, by omega, by omega, by omega, by omega⟩
        | exact ⟨rfl, (by first | exact l1 | trivial), fun i _ => Dat.hok _, ⟨by omega, by omega, by omega, by omega, by omega, s1, s2⟩, by omega⟩
        | exact ⟨rfl, (by first | exact l2 | trivial), fun i _ => Dat.hok _, ⟨by omega, by omega, by omega, by omega, by omega, by rw [eE]; exact s3, by rw [eE]; exact s4⟩, by omega⟩
        | exact (congrArg List.length (r2 (by omega)))
        | (rw [← r2 (by omega)]; done)
        | fail)
  · have hMd : M ≤ md := by omega
    refine LoopVC.frame [20, 21, 23, 151, 171] (GnX l (md + M) A M) (fun x => [(20, .i .i64 fun _ => x.s), (21, .i .i64 fun _ => x.r)]) (fun _ => []) [] (fun x => x.r - x.s)
      ⟨A, M, Nat.le_refl _, by omega, Nat.le_refl _, fun h => absurd h (Nat.lt_irrefl _), fun h => absurd h (Nat.lt_irrefl _)⟩ rfl (fun _ => rfl) ?_ ?_ fun ⟨n, j, g1, g2, g3, p1, p2⟩ => ?_
    iterate 2
      · cbv
        repeat' first | (refine Stp.mk ?_; cbv) | (refine Gen.mk fun r hr => ?_; (try simp only [Dat.ok, Dat.dec, Leaf.ok, Leaf.val, Span.eta, Set.eta, Task.eta, Done.eta, job.eta, Late.eta, val_sl, val_nil] at hr); cbv) | exact trivial | rfl | refine Both.mk ?_ ?_ | (refine Imp.mk fun h => ?_; (try dsimp only at h); (try simp only [nc, Int.toNat_natCast, ne_eq, zz] at h); (try simp only [nc] at h)) | refine Ob.mk ?_ ?_ | refine Chk.mk (by kernel_rfl) ?_ | refine Eq'.mk ?_ | (refine AllN.mk fun i hi => ?_; cbv) | (refine AllC.mk fun c hc hcm => ?_; (try dsimp only at hc); cbv) | (refine AllS.mk fun r hr => ?_; (try simp only [Dat.ok, Dat.dec, Leaf.ok, Leaf.val, Span.eta, Set.eta, Task.eta, Done.eta, job.eta, Late.eta, val_sl] at hr); cbv)
    have hm := mid_eq (a := (n : Int)) (b := (j : Int)) (by omega) (by omega) (by omega)
    have hc : ((n : Int) + (j : Int)) / 2 = (((n + j) / 2 : Nat) : Int) := by omega
    rw [hc] at hm
    have hc2 : (md : Int) + (M : Nat) - 1 - (((n + j) / 2 : Nat) : Int) = ((md + M - 1 - (n + j) / 2 : Nat) : Int) := by omega
    cbv
    repeat' first | (show Stp _; exfalso; first | omega | (exact h ‹_›) | (exact absurd ‹_› h) | (exact Bool.false_ne_true (h.symm.trans (show _ = true by assumption)))) | (refine Stp.mk ?_; cbv) | (refine Gen.mk fun r hr => ?_; (try simp only [Dat.ok, Dat.dec, Leaf.ok, Leaf.val, Span.eta, Set.eta, Task.eta, Done.eta, job.eta, Late.eta, val_sl, val_nil] at hr); cbv) | exact trivial | rfl | refine Both.mk ?_ ?_ | (refine Imp.mk fun h => ?_; (try dsimp only at h); (try simp only [nc, Int.toNat_natCast, ne_eq, zz] at h); (try simp only [nc] at h)) | refine Ob.mk ?_ ?_ | refine Chk.mk (by kernel_rfl) ?_ | refine Eq'.mk ?_ | (refine AllN.mk fun i hi => ?_; cbv) | (refine AllC.mk fun c hc hcm => ?_; (try dsimp only at hc); cbv) | (refine AllS.mk fun r hr => ?_; (try simp only [Dat.ok, Dat.dec, Leaf.ok, Leaf.val, Span.eta, Set.eta, Task.eta, Done.eta, job.eta, Late.eta, val_sl] at hr); cbv)
    all_goals ((try dsimp only at *); (try simp only [nc, Int.toNat_natCast, ne_eq, zz] at *); (try simp only [nc] at *))
    all_goals try rw [hm]
    all_goals try rw [hc2]
    all_goals try rw [Int.toNat_natCast]
    all_goals first
      | omega
      | (unfold InR; omega)
      | exact ⟨by omega, by omega⟩
      | exact ⟨⟨trivial, trivial, trivial, trivial, trivial, trivial⟩, ⟨trivial, trivial, trivial, trivial, trivial, trivial⟩⟩
      | skip
    · rw [hm, hc2, Int.toNat_natCast, Int.toNat_natCast] at h
      have hlt : ¬ (l.getD (md + M - 1 - (n + j) / 2) jd0).done.came < (l.getD ((n + j) / 2) jd0).done.came := fun q => Int.not_lt.2 h (cmpV_neg.2 q)
      refine ⟨⟨(n + j) / 2 + 1, j, by omega, by omega, g3, fun _ => by
        rw [show md + M - ((n + j) / 2 + 1) = md + M - 1 - (n + j) / 2 by omega]
        exact Int.not_lt.1 hlt, p2⟩, ?_, ?_, rfl, by (try dsimp only); omega⟩
      iterate 2
        · cbv
          repeat' first | (refine Stp.mk ?_; cbv) | (refine Gen.mk fun r hr => ?_; (try simp only [Dat.ok, Dat.dec, Leaf.ok, Leaf.val, Span.eta, Set.eta, Task.eta, Done.eta, job.eta, Late.eta, val_sl, val_nil] at hr); cbv) | exact trivial | rfl | refine Both.mk ?_ ?_ | (refine Imp.mk fun h => ?_; (try dsimp only at h); (try simp only [nc, Int.toNat_natCast, ne_eq, zz] at h); (try simp only [nc] at h)) | refine Ob.mk ?_ ?_ | refine Chk.mk (by kernel_rfl) ?_ | refine Eq'.mk ?_ | (refine AllN.mk fun i hi => ?_; cbv) | (refine AllC.mk fun c hc hcm => ?_; (try dsimp only at hc); cbv) | (refine AllS.mk fun r hr => ?_; (try simp only [Dat.ok, Dat.dec, Leaf.ok, Leaf.val, Span.eta, Set.eta, Task.eta, Done.eta, job.eta, Late.eta, val_sl] at hr); cbv)
    · rw [hm, hc2, Int.toNat_natCast, Int.toNat_natCast] at h
      have hlt := cmpV_neg.1 (show cmpV (l.getD (md + M - 1 - (n + j) / 2) jd0).done.came (l.getD ((n + j) / 2) jd0).done.came < 0 from h)
      refine ⟨⟨n, (n + j) / 2, g1, by omega, by omega, p1, fun _ => hlt⟩, ?_, ?_, rfl, by (try dsimp only); omega⟩
      iterate 2
        · cbv
          repeat' first | (refine Stp.mk ?_; cbv) | (refine Gen.mk fun r hr => ?_; (try simp only [Dat.ok, Dat.dec, Leaf.ok, Leaf.val, Span.eta, Set.eta, Task.eta, Done.eta, job.eta, Late.eta, val_sl, val_nil] at hr); cbv) | exact trivial | rfl | refine Both.mk ?_ ?_ | (refine Imp.mk fun h => ?_; (try dsimp only at h); (try simp only [nc, Int.toNat_natCast, ne_eq, zz] at h); (try simp only [nc] at h)) | refine Ob.mk ?_ ?_ | refine Chk.mk (by kernel_rfl) ?_ | refine Eq'.mk ?_ | (refine AllN.mk fun i hi => ?_; cbv) | (refine AllC.mk fun c hc hcm => ?_; (try dsimp only at hc); cbv) | (refine AllS.mk fun r hr => ?_; (try simp only [Dat.ok, Dat.dec, Leaf.ok, Leaf.val, Span.eta, Set.eta, Task.eta, Done.eta, job.eta, Late.eta, val_sl] at hr); cbv)
    all_goals (
      try (
        rename (_ = l) => hq
        replace hq := hq.symm
        subst hq)
      try (
        rename (_ = slV _) => hq3
        replace hq3 := hq3.symm
        subst hq3)
      try (
        rename (_ = slV _) => hq4
        replace hq4 := hq4.symm
        subst hq4)
      have hnj : n = j := by omega
      subst hnj
      obtain ⟨X1, X2, hS⟩ : ∃ X1 X2, SymE l A M B md n (md + M - n) X1 X2 := sym_end (by omega) (by omega) (by omega) (by omega) k3 (by omega) sA sB (fun q1 q2 => p1 (by omega)) (fun q1 q2 => by
        have := p2 (by omega)
        rw [show md + M - 1 - n = md + M - n - 1 by omega] at this
        exact this)
      obtain ⟨hX1, hX2, r0, s1, s2, r1, s3, s4, r2, fin, l1, l2⟩ := hS
      have eE : ((md : Int) + (M : Nat) - (n : Nat)).toNat = md + M - n := by omega
      have e1 : rotR_F l (n : Nat) (M : Nat) ((md : Int) + (M : Nat) - (n : Nat)) = X1 := by unfold rotR_F; rw [eE]; exact hX1
      have e2 : symJ_F X1 (A : Nat) (n : Nat) (md : Nat) = X2 := hX2
      have e3 : symJ_F X2 (md : Nat) ((md : Int) + (M : Nat) - (n : Nat)) (B : Nat) = segS l A B := fin
      have e4 : symJ_F l (A : Nat) (M : Nat) (B : Nat) = segS l A B := rfl
      have v0 : slV (.sl 6 (fun _ => l.length) fun i => Dat.enc fun _ => l.getD (i ()) Dat.d0) = l := val_sl l 6
      have v1 : slV (.sl 6 (fun _ => l.length) fun i => Dat.enc fun _ => X1.getD (i ()) Dat.d0) = X1 := val_len 6 l1
      have v2 : slV (.sl 6 (fun _ => l.length) fun i => Dat.enc fun _ => X2.getD (i ()) Dat.d0) = X2 := val_len 6 l2
      try (
        have q := r0 (by omega)
        subst q)
      try (
        have q := r1 (by omega)
        subst q)
      try simp only [e1, e2, e3, e4, v0, v1, v2]
      first
        | done
        | omega
        | (unfold InR; omega)
        | exact ⟨rfl, (by first | rfl | trivial), fun i _ => Dat.hok _, by omega, by omega, by omega, by omega, by omega⟩
        | exact ⟨rfl, (by first | exact l1 | trivial), fun i _ => Dat.hok _, ⟨by omega, by omega, by omega, by omega, by omega, s1, s2⟩, by omega⟩
        | exact ⟨rfl, (by first | exact l2 | trivial), fun i _ => Dat.hok _, ⟨by omega, by omega, by omega, by omega, by omega, by rw [eE]; exact s3, by rw [eE]; exact s4⟩, by omega⟩
        | exact (congrArg List.length (r2 (by omega)))
        | (rw [← r2 (by omega)]; done)
        | fail)
theorem sym_all : ∀ (N : Nat) (l : List job) (a m b : Int), symJ_P l a m b → (b - a).toNat < N → symOk l a m b
  | 0, _, _, _, _, _, h => absurd h (Nat.not_lt_zero _)
  | N + 1, l, a, m, b, hp, h => by
    obtain ⟨h1, h2, h3, h4, h5, h6, h7⟩ := hp
    obtain ⟨A, rfl⟩ := Int.eq_ofNat_of_zero_le h1
    obtain ⟨M, rfl⟩ := Int.eq_ofNat_of_zero_le (show 0 ≤ m by omega)
    obtain ⟨B, rfl⟩ := Int.eq_ofNat_of_zero_le (show 0 ≤ b by omega)
    exact sym_step (sym_all N) l A M B (by omega) (by omega) (by omega) (by omega) h6 h7 (by omega)

end Go.Proofs.Ytcnfdohlgmipoaa
