import Derived.Test.YtpooooomhnehfaaFence3
set_option linter.all false
namespace Go.Proofs.Ytpooooomhnehfaa
open Go Go.Abs

/- Comparisons of slices. -/
def getB : List AV → Bool
  | [.b p] => p ()
  | [.bc p] => p
  | _ => false
def shB : List AV → Bool
  | [.b _] => true
  | [.bc _] => true
  | _ => false
theorem shB_le {l : List AV} (h : shB l = true) : leL 0 l [.b fun _ => getB l] := by
  unfold shB at h
  split at h
  · exact .mk (.mk rfl) trivial
  · exact .mk (.mk rfl) trivial
  · cases h
theorem slB_le {m : Nat} {f : Th Nat → List AV} (h : ∀ i, i < m → shB (f fun _ => i) = true) : le 0 (.sl 1 (fun _ => m) f) (.sl 1 (fun _ => m) fun i => [.b fun _ => getB (f fun _ => i ())]) :=
  .mk (.mk rfl) (.mk fun i hi => .mk (shB_le (h i hi)) rfl)

def get2 : List AV → Int × Int
  | [.i _ p, .i _ q] => (p (), q ())
  | _ => (0, 0)
def sh2 : List AV → Bool
  | [.i .i64 _, .i .i64 _] => true
  | _ => false
theorem sh2_le {l : List AV} (h : sh2 l = true) : leL 0 l [.i .i64 fun _ => (get2 l).1, .i .i64 fun _ => (get2 l).2] := by
  unfold sh2 at h
  split at h
  · exact .mk (.mk (.mk rfl) (.mk rfl)) (.mk (.mk (.mk rfl) (.mk rfl)) trivial)
  · cases h
theorem sl2_le {m : Nat} {f : Th Nat → List AV} (h : ∀ i, i < m → sh2 (f fun _ => i) = true) :
    le 0 (.sl 2 (fun _ => m) f) (.sl 2 (fun _ => m) fun i => [.i .i64 fun _ => (get2 (f fun _ => i ())).1, .i .i64 fun _ => (get2 (f fun _ => i ())).2]) :=
  .mk (.mk rfl) (.mk fun i hi => .mk (sh2_le (h i hi)) rfl)

def eqN (n m : Nat) (p : Nat → Bool) : Bool := n == m && allB p n

def eqBD : Det := fun A => match A with
  | [.sl 1 n f, .sl 1 m g] => some (fun _ => n () ≤ 9223372036854775807 ∧ (∀ i, i < n () → shB (f fun _ => i) = true) ∧ ∀ i, i < m () → shB (g fun _ => i) = true, .b fun _ => eqN (n ()) (m ()) fun i => getB (f fun _ => i) == getB (g fun _ => i))
  | _ => none
def eqFD : Det := fun A => match A with
  | [.sl 2 n f, .sl 2 m g] => some (fun _ => n () ≤ 9223372036854775807 ∧ (∀ i, i < n () → sh2 (f fun _ => i) = true) ∧ ∀ i, i < m () → sh2 (g fun _ => i) = true, .b fun _ => eqN (n ()) (m ()) fun i => get2 (f fun _ => i) == get2 (g fun _ => i))
  | _ => none

theorem allB_false {p : Nat → Bool} {k n : Nat} (hk : k < n) (hp : p k = false) : allB p n = false := by
  cases h : allB p n with
  | false => rfl
  | true => have := allB_iff.1 h k hk; rw [hp] at this; cases this

structure EX (n : Nat) (p : Nat → Bool) where
  k : Nat
  hk : k ≤ n
  hv : ∀ j, j < k → p j = true

set_option maxRecDepth 100000
theorem eqB_vc (n m : Nat) (f g : Nat → Bool) (hn : n ≤ 9223372036854775807) : FnOk Try.prog 16 [.sl 1 (fun _ => n) fun i => [.b fun _ => f (i ())], .sl 1 (fun _ => m) fun i => [.b fun _ => g (i ())]] [] (outLe 0 (.b fun _ => eqN n m fun i => f i == g i) [] []) := by
  refine fn_ok envOk zl noCon (draws_ok envOk noDet_ok mixed) (keep := [0, 1, 4, 5, 10, 12, 13, 14, 24]) Try.func16 rfl ?_
  have fin : ∀ b H kl, (b = eqN n m fun i => f i == g i) → outLe 0 (.b fun _ => eqN n m fun i => f i == g i) [] [] (.bc b) H kl := by
    rintro b H kl rfl
    unfold outLe
    rw [below_zero]
    exact .mk (.mk rfl) (.mk trivial rfl)
  generalize hK : outLe 0 (.b fun _ => eqN n m fun i => f i == g i) [] [] = K at fin ⊢
  cbv
  refine Both.mk (Imp.mk fun h1 => fin _ _ _ ?_) (Imp.mk fun h1 => ?_)
  · simp only [nc, Bool.not_eq_true', beq_eq_false_iff_ne] at h1
    have h2 : ¬ n = m := by omega
    simp [eqN, h2]
  · have hnm : n = m := by simp only [nc, Bool.not_eq_false', beq_iff_eq] at h1; omega
    subst hnm
    refine LoopVC.mk (EX n fun i => f i == g i) (fun x => [(0, .sl 1 (fun _ => n) fun i => [.b fun _ => f (i ())]), (1, .sl 1 (fun _ => n) fun i => [.b fun _ => g (i ())]), (12, .i .i64 fun _ => n), (13, .i .i64 fun _ => x.k)]) (fun _ => []) [] (fun x => n - x.k)
      ⟨0, Nat.zero_le _, fun j hj => absurd hj (Nat.not_lt_zero _)⟩ rfl (fun _ => rfl) ?_ ?_ fun ⟨k, hk, hv⟩ => ?_
    · cbv
      repeat' first | exact trivial | rfl | refine Both.mk ?_ ?_ | refine Imp.mk fun _ => ?_ | refine Ob.mk ?_ ?_ | refine Eq'.mk ?_ | (refine AllN.mk fun i hi => ?_; cbv)
    · cbv
    · cbv
      repeat' first | exact trivial | rfl | refine Both.mk ?_ ?_ | refine Imp.mk fun _ => ?_ | refine Ob.mk ?_ ?_ | refine Eq'.mk ?_
      all_goals dsimp only at *
      all_goals simp only [nc, Int.toNat_natCast, Bool.not_eq_true', Bool.not_eq_false', decide_eq_true_eq, decide_eq_false_iff_not, Bool.and_true] at *
      all_goals first
        | omega
        | (simp only [InR]; omega)
        | (refine ⟨⟨k + 1, by omega, fun j hj => ?_⟩, ?_, trivial, rfl, by dsimp only; omega⟩
           · rcases Nat.lt_succ_iff_lt_or_eq.1 hj with hj | rfl
             · exact hv j hj
             · assumption
           · cbv
             repeat' first | exact trivial | rfl | refine Both.mk ?_ ?_ | refine Imp.mk fun _ => ?_ | refine Ob.mk ?_ ?_ | refine Eq'.mk ?_ | (refine AllN.mk fun i hi => ?_; cbv))
        | (have hkn : k = n := by omega
           subst hkn
           refine fin _ _ _ ?_
           simp only [eqN, beq_self_eq_true, Bool.true_and]
           exact (allB_iff.2 hv).symm)
        | (refine fin _ _ _ ?_
           have hkn : k < n := by omega
           rw [eqN, allB_false hkn (by assumption)]
           simp)

theorem eqF_vc (n m : Nat) (f g : Nat → Int × Int) (hn : n ≤ 9223372036854775807) : FnOk Try.prog 27 [.sl 2 (fun _ => n) fun i => [.i .i64 fun _ => (f (i ())).1, .i .i64 fun _ => (f (i ())).2], .sl 2 (fun _ => m) fun i => [.i .i64 fun _ => (g (i ())).1, .i .i64 fun _ => (g (i ())).2]] [] (outLe 0 (.b fun _ => eqN n m fun i => f i == g i) [] []) := by
  refine fn_ok envOk zl noCon (draws_ok envOk noDet_ok mixed) (keep := [0, 1, 4, 5, 10, 12, 13, 14, 24]) Try.func27 rfl ?_
  have fin : ∀ b H kl, (b = eqN n m fun i => f i == g i) → outLe 0 (.b fun _ => eqN n m fun i => f i == g i) [] [] (.bc b) H kl := by
    rintro b H kl rfl
    unfold outLe
    rw [below_zero]
    exact .mk (.mk rfl) (.mk trivial rfl)
  generalize hK : outLe 0 (.b fun _ => eqN n m fun i => f i == g i) [] [] = K at fin ⊢
  cbv
  refine Both.mk (Imp.mk fun h1 => fin _ _ _ ?_) (Imp.mk fun h1 => ?_)
  · simp only [nc, Bool.not_eq_true', beq_eq_false_iff_ne] at h1
    have h2 : ¬ n = m := by omega
    simp [eqN, h2]
  · have hnm : n = m := by simp only [nc, Bool.not_eq_false', beq_iff_eq] at h1; omega
    subst hnm
    refine LoopVC.mk (EX n fun i => f i == g i) (fun x => [(0, .sl 2 (fun _ => n) fun i => [.i .i64 fun _ => (f (i ())).1, .i .i64 fun _ => (f (i ())).2]), (1, .sl 2 (fun _ => n) fun i => [.i .i64 fun _ => (g (i ())).1, .i .i64 fun _ => (g (i ())).2]), (12, .i .i64 fun _ => n), (13, .i .i64 fun _ => x.k)]) (fun _ => []) [] (fun x => n - x.k)
      ⟨0, Nat.zero_le _, fun j hj => absurd hj (Nat.not_lt_zero _)⟩ rfl (fun _ => rfl) ?_ ?_ fun ⟨k, hk, hv⟩ => ?_
    · cbv
      repeat' first | exact trivial | rfl | refine Both.mk ?_ ?_ | refine Imp.mk fun _ => ?_ | refine Ob.mk ?_ ?_ | refine Eq'.mk ?_ | (refine AllN.mk fun i hi => ?_; cbv)
    · cbv
    · cbv
      repeat' first | exact trivial | rfl | refine Both.mk ?_ ?_ | refine Imp.mk fun _ => ?_ | refine Ob.mk ?_ ?_ | refine Eq'.mk ?_
      all_goals dsimp only at *
      all_goals simp only [nc, Int.toNat_natCast, Bool.not_eq_true', Bool.not_eq_false', decide_eq_true_eq, decide_eq_false_iff_not, Bool.and_true] at *
      all_goals first
        | omega
        | (simp only [InR]; omega)
        | (refine ⟨⟨k + 1, by omega, fun j hj => ?_⟩, ?_, trivial, rfl, by dsimp only; omega⟩
           · rcases Nat.lt_succ_iff_lt_or_eq.1 hj with hj | rfl
             · exact hv j hj
             · assumption
           · cbv
             repeat' first | exact trivial | rfl | refine Both.mk ?_ ?_ | refine Imp.mk fun _ => ?_ | refine Ob.mk ?_ ?_ | refine Eq'.mk ?_ | (refine AllN.mk fun i hi => ?_; cbv))
        | (have hkn : k = n := by omega
           subst hkn
           refine fin _ _ _ ?_
           simp only [eqN, beq_self_eq_true, Bool.true_and]
           exact (allB_iff.2 hv).symm)
        | (refine fin _ _ _ ?_
           have hkn : k < n := by omega
           rw [eqN, allB_false hkn (by assumption)]
           simp)

theorem eqB_ok : PcOk Try.prog 16 (detPC eqBD) := det_ok fun A p r h hp => by
  unfold eqBD at h
  split at h
  · rename_i n f m g
    cases h
    obtain ⟨h0, h1, h2⟩ := hp
    exact FnOk.pre (A' := [.sl 1 (fun _ => n ()) fun i => [.b fun _ => getB (f fun _ => i ())], .sl 1 (fun _ => m ()) fun i => [.b fun _ => getB (g fun _ => i ())]])
      (eqB_vc (n ()) (m ()) (fun i => getB (f fun _ => i)) (fun i => getB (g fun _ => i)) h0) (.mk (slB_le h1) (.mk (slB_le h2) trivial))
  · cases h
theorem eqF_ok : PcOk Try.prog 27 (detPC eqFD) := det_ok fun A p r h hp => by
  unfold eqFD at h
  split at h
  · rename_i n f m g
    cases h
    obtain ⟨h0, h1, h2⟩ := hp
    exact FnOk.pre (A' := [.sl 2 (fun _ => n ()) fun i => [.i .i64 fun _ => (get2 (f fun _ => i ())).1, .i .i64 fun _ => (get2 (f fun _ => i ())).2], .sl 2 (fun _ => m ()) fun i => [.i .i64 fun _ => (get2 (g fun _ => i ())).1, .i .i64 fun _ => (get2 (g fun _ => i ())).2]])
      (eqF_vc (n ()) (m ()) (fun i => get2 (f fun _ => i)) (fun i => get2 (g fun _ => i)) h0) (.mk (sl2_le h1) (.mk (sl2_le h2) trivial))
  · cases h

end Go.Proofs.Ytpooooomhnehfaa
