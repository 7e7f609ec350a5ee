/- Two sorted rows of jobs, merged in place: the general step: plain. -/
import Derived.Test.YtcnfdohlgmipoaaStJQ
set_option linter.all false
namespace Go.Proofs.Ytcnfdohlgmipoaa
open Go Go.Abs

theorem cutP {l P X Q : List job} {a b : Nat} (h : l = P ++ X ++ Q) (ha : P.length = a) (hb : a + X.length = b) : cutJ l a b = X := by
  subst h ha hb
  unfold cutJ
  rw [List.append_assoc, List.drop_left, Nat.add_sub_cancel_left, List.take_left]
theorem segP {l P X Q : List job} {a b : Nat} (h : l = P ++ X ++ Q) (ha : P.length = a) (hb : a + X.length = b) : segS l a b = P ++ sortS X ++ Q := by
  have e := cutP h ha hb
  unfold cutJ at e
  unfold segS
  rw [e]
  subst h ha hb
  rw [← List.length_append, List.drop_left, List.append_assoc P X Q, List.take_left]
theorem rotP {l P X Y Q : List job} {a m b : Nat} (h : l = P ++ X ++ Y ++ Q) (ha : P.length = a) (hm : a + X.length = m) (hb : m + Y.length = b) : rotL l a m b = P ++ Y ++ X ++ Q := by
  have e1 := cutP (l := l) (P := P) (X := X) (Q := Y ++ Q) (by rw [h]; simp) ha hm
  have e2 := cutP (l := l) (P := P ++ X) (X := Y) (Q := Q) h (by rw [List.length_append]; omega) hb
  have e3 : l.take a = P := by subst h ha; rw [List.append_assoc, List.append_assoc, List.take_left]
  have e4 : l.drop b = Q := by
    have : b = (P ++ X ++ Y).length := by simp; omega
    subst h
    rw [this, List.drop_left]
  unfold cutJ at e1 e2
  unfold rotL
  rw [e1, e2, e3, e4]
structure SymE (l : List job) (A M B mid S E : Nat) (X1 X2 : List job) : Prop where
  h1 : rotL l S M E = X1
  h2 : segS X1 A mid = X2
  r0 : ¬ (S < M ∧ M < E) → l = X1
  s1 : SrtJ (cutJ X1 A S)
  s2 : SrtJ (cutJ X1 S mid)
  r1 : ¬ (A < S ∧ S < mid) → X1 = X2
  s3 : SrtJ (cutJ X2 mid E)
  s4 : SrtJ (cutJ X2 E B)
  r2 : ¬ (mid < E ∧ E < B) → X2 = segS l A B
  fin : segS X2 mid B = segS l A B
  l1 : l.length = X1.length
  l2 : l.length = X2.length
theorem sym_end {l : List job} {A M B mid S E : Nat} (h1 : A ≤ S) (h2 : S ≤ M) (h3 : M ≤ E) (h4 : E ≤ B) (h5 : B ≤ l.length) (hm : mid + M = S + E) (sA : SrtJ (cutJ l A M)) (sB : SrtJ (cutJ l M B))
    (c1 : A < S → E < B → (l.getD (S - 1) jd0).done.came ≤ (l.getD E jd0).done.came) (c2 : M < E → S < M → (l.getD (E - 1) jd0).done.came < (l.getD S jd0).done.came) : ∃ X1 X2, SymE l A M B mid S E X1 X2 := by
  have hl : l = l.take A ++ cutJ l A S ++ cutJ l S M ++ cutJ l M E ++ cutJ l E B ++ l.drop B := by
    have e := cutJ_all (l := l) (show A ≤ B by omega)
    rw [← cutJ_app (show A ≤ M by omega) (show M ≤ B by omega), ← cutJ_app h1 h2, ← cutJ_app h3 h4] at e
    rw [← List.append_assoc, ← List.append_assoc, ← List.append_assoc] at e
    exact e.symm
  have nP : (l.take A).length = A := by rw [List.length_take]; omega
  have n1 : (cutJ l A S).length = S - A := cutJ_len (by omega)
  have n2 : (cutJ l S M).length = M - S := cutJ_len (by omega)
  have n3 : (cutJ l M E).length = E - M := cutJ_len (by omega)
  have n4 : (cutJ l E B).length = B - E := cutJ_len (by omega)
  have f1 := fun x hx => @cutJ_last l A S x hx (by omega)
  have f2 := fun x (hx : (cutJ l S M).head? = some x) => cutJ_head hx
  have f3 := fun x hx => @cutJ_last l M E x hx (by omega)
  have f4 := fun x (hx : (cutJ l E B).head? = some x) => cutJ_head hx
  have sA' : SrtJ (cutJ l A S ++ cutJ l S M) := by rw [cutJ_app h1 h2]; exact sA
  have sB' : SrtJ (cutJ l M E ++ cutJ l E B) := by rw [cutJ_app h3 h4]; exact sB
  have tA := List.pairwise_append.1 sA'
  have tB := List.pairwise_append.1 sB'
  have eAM : cutJ l A S ++ cutJ l S M ++ (cutJ l M E ++ cutJ l E B) = cutJ l A B := by rw [cutJ_app h1 h2, cutJ_app h3 h4, cutJ_app (by omega) (by omega)]
  generalize l.take A = P at *
  generalize l.drop B = Q at *
  generalize hA1 : cutJ l A S = A1 at *
  generalize hA2 : cutJ l S M = A2 at *
  generalize hB1 : cutJ l M E = B1 at *
  generalize hB2 : cutJ l E B = B2 at *
  have mg : sortS (A1 ++ A2 ++ (B1 ++ B2)) = sortS (A1 ++ B1) ++ sortS (A2 ++ B2) := by
    refine merge_gen sA' sB' (all_le tA.1 tB.2.1 fun a b ha hb => ?_) (all_lt tB.1 tA.2.1 fun a b ha hb => ?_)
    · have hAS : A < S := by
        rcases Nat.lt_or_ge A S with h | h
        · exact h
        · have : A1 = [] := List.eq_nil_of_length_eq_zero (by omega)
          rw [this] at ha; cases ha
      obtain ⟨q1, q2⟩ := f4 b hb
      rw [f1 a hAS ha, q1]
      exact c1 hAS q2
    · have hME : M < E := by
        rcases Nat.lt_or_ge M E with h | h
        · exact h
        · have : B1 = [] := List.eq_nil_of_length_eq_zero (by omega)
          rw [this] at ha; cases ha
      obtain ⟨q1, q2⟩ := f2 b hb
      rw [f3 a hME ha, q1]
      exact c2 hME q2
  have e1 : rotL l S M E = P ++ A1 ++ B1 ++ A2 ++ B2 ++ Q := by
    rw [rotP (l := l) (P := P ++ A1) (X := A2) (Y := B1) (Q := B2 ++ Q) (by rw [hl]; simp) (by rw [List.length_append]; omega) (by omega) (by omega)]
    simp
  have e2 : segS (rotL l S M E) A mid = P ++ sortS (A1 ++ B1) ++ (A2 ++ B2 ++ Q) :=
    segP (l := rotL l S M E) (P := P) (X := A1 ++ B1) (Q := A2 ++ B2 ++ Q) (by rw [e1]; simp) nP (by rw [List.length_append]; omega)
  have n5 : (sortS (A1 ++ B1)).length = mid - A := by rw [sortS_len, List.length_append]; omega
  have e3 : segS (segS (rotL l S M E) A mid) mid B = P ++ sortS (A1 ++ B1) ++ sortS (A2 ++ B2) ++ Q :=
    segP (P := P ++ sortS (A1 ++ B1)) (X := A2 ++ B2) (Q := Q) (by rw [e2]; simp) (by rw [List.length_append]; omega) (by rw [List.length_append]; omega)
  have e4 : segS (segS (rotL l S M E) A mid) mid B = segS l A B := by
    rw [e3, segP (l := l) (P := P) (X := A1 ++ A2 ++ (B1 ++ B2)) (Q := Q) (by rw [hl]; simp) nP (by simp only [List.length_append]; omega), mg]
    simp
  refine ⟨_, _, ⟨rfl, rfl, fun h => ?_, ?_, ?_, fun h => ?_, ?_, ?_, fun h => ?_, e4, ?_, ?_⟩⟩
  · rw [e1]
    refine hl.trans ?_
    rcases (show A2 = [] ∨ B1 = [] by
      rcases Nat.lt_or_ge S M with q | q
      · exact .inr (List.eq_nil_of_length_eq_zero (by omega))
      · exact .inl (List.eq_nil_of_length_eq_zero (by omega))) with q | q
    · rw [q]; simp
    · rw [q]; simp
  · rw [cutP (l := rotL l S M E) (P := P) (X := A1) (Q := B1 ++ A2 ++ B2 ++ Q) (by rw [e1]; simp) nP (by omega)]
    exact tA.1
  · rw [cutP (l := rotL l S M E) (P := P ++ A1) (X := B1) (Q := A2 ++ B2 ++ Q) (by rw [e1]; simp) (by rw [List.length_append]; omega) (by omega)]
    exact tB.1
  · refine Eq.symm ?_
    rw [e2, e1]
    have : sortS (A1 ++ B1) = A1 ++ B1 := by
      rcases (show A1 = [] ∨ B1 = [] by
        rcases Nat.lt_or_ge A S with q | q
        · exact .inr (List.eq_nil_of_length_eq_zero (by omega))
        · exact .inl (List.eq_nil_of_length_eq_zero (by omega))) with q | q
      · rw [q, List.nil_append]; exact sortS_of tB.1
      · rw [q, List.append_nil]; exact sortS_of tA.1
    rw [this]; simp
  · rw [cutP (l := segS (rotL l S M E) A mid) (P := P ++ sortS (A1 ++ B1)) (X := A2) (Q := B2 ++ Q) (by rw [e2]; simp) (by rw [List.length_append]; omega) (by omega)]
    exact tA.2.1
  · rw [cutP (l := segS (rotL l S M E) A mid) (P := P ++ sortS (A1 ++ B1) ++ A2) (X := B2) (Q := Q) (by rw [e2]; simp) (by rw [List.length_append, List.length_append]; omega) (by omega)]
    exact tB.2.1
  · rw [← e4]
    refine Eq.symm ?_
    rw [e3, e2]
    have : sortS (A2 ++ B2) = A2 ++ B2 := by
      rcases (show A2 = [] ∨ B2 = [] by
        rcases Nat.lt_or_ge mid E with q | q
        · exact .inr (List.eq_nil_of_length_eq_zero (by omega))
        · exact .inl (List.eq_nil_of_length_eq_zero (by omega))) with q | q
      · rw [q, List.nil_append]; exact sortS_of tB.2.1
      · rw [q, List.append_nil]; exact sortS_of tA.2.1
    rw [this]; simp
  · rw [e1]
    conv => lhs; rw [hl]
    simp only [List.length_append]; omega
  · rw [e2]
    conv => lhs; rw [hl]
    simp only [List.length_append, sortS_len]; omega

end Go.Proofs.Ytcnfdohlgmipoaa
