import Derived.Test.YtpooooomhnehfaaFence2
set_option linter.all false
namespace Go.Proofs.Ytpooooomhnehfaa
open Go Go.Abs

structure Tr where
  k : Int
  f : Int
  w : Int
  e : Int

def valid (n : Int) (t : Tr) : Bool := (t.k == 1 || t.k == 2) && decide (0 ≤ t.f) && decide (t.f < n) && whoB t.w && epB t.e
def allB (p : Nat → Bool) : Nat → Bool
  | 0 => true
  | k + 1 => allB p k && p k
theorem allB_iff {p : Nat → Bool} : ∀ {k : Nat}, allB p k = true ↔ ∀ j, j < k → p j = true
  | 0 => by simp [allB]
  | k + 1 => by
    rw [allB, Bool.and_eq_true, allB_iff (k := k)]
    exact ⟨fun h j hj => (Nat.lt_succ_iff_lt_or_eq.1 hj).elim (h.1 j) fun e => e ▸ h.2, fun h => ⟨fun j hj => h j (by omega), h k (by omega)⟩⟩

/-- A fence, behind k tries. -/
def st (g : Nat → Tr) : Nat → Nat → Int × Int
  | 0, _ => (0, 0)
  | k + 1, i => if (g k).k = 1 ∧ (g k).f = (i : Int) then (clE (st g k i).1 (st g k i).2 (g k).w (g k).e, clO (st g k i).1 (st g k i).2 (g k).w (g k).e) else st g k i
def outB (g : Nat → Tr) (k : Nat) : Bool :=
  if (g k).k = 1 then clB (st g k (g k).f.toNat).1 (st g k (g k).f.toNat).2 (g k).w (g k).e else paB (st g k (g k).f.toNat).1 (st g k (g k).f.toNat).2 (g k).w (g k).e
def okB (n : Int) (m : Nat) (g : Nat → Tr) : Bool := decide (0 ≤ n) && decide (n ≤ 8) && decide (m ≤ 500) && allB (fun i => valid n (g i)) m
def errV (n : Int) (m : Nat) : Int := if n < 0 ∨ 8 < n then 1 else if 500 < m then 2 else 1

def tryL (t : Tr) : List AV := [.i .i64 fun _ => t.k, .i .i64 fun _ => t.f, .i .i64 fun _ => t.w, .i .i64 fun _ => t.e]
def shape4 : List AV → Bool
  | [.i .i64 _, .i .i64 _, .i .i64 _, .i .i64 _] => true
  | _ => false
def trOf : List AV → Tr
  | [.i _ a, .i _ b, .i _ c, .i _ d] => ⟨a (), b (), c (), d ()⟩
  | _ => ⟨0, 0, 0, 0⟩
theorem shape4_le {l : List AV} (h : shape4 l = true) : leL 0 l (tryL (trOf l)) := by
  unfold shape4 at h
  split at h
  · exact .mk (.mk (.mk rfl) (.mk rfl)) (.mk (.mk (.mk rfl) (.mk rfl)) (.mk (.mk (.mk rfl) (.mk rfl)) (.mk (.mk (.mk rfl) (.mk rfl)) trivial)))
  · cases h

def fenceObj (n : Int) (g : Nat → Tr) (k : Nat) : AObj := .vec 33 2 (fun _ => n.toNat) fun i => [.i .i64 fun _ => (st g k (i ())).1, .i .i64 fun _ => (st g k (i ())).2]
def outObj (m : Nat) (g : Nat → Tr) : AObj := .vec 4 1 (fun _ => m) fun i => [.b fun _ => outB g (i ())]
def playOk (n : Int) (m : Nat) : AV := .tup [.own 0 fun _ => n.toNat, .own 1 fun _ => m, .i .i64 fun _ => 0]
def playErr (n : Int) (m : Nat) : AV := .tup [.nil, .nil, .i .i64 fun _ => errV n m]
def playC : PC := fun A K => match A with
  | [.i .i64 n, .sl 4 m f] => Ob (fun _ => ∀ i, i < m () → shape4 (f fun _ => i) = true) (splitB (fun _ => okB (n ()) (m ()) fun i => trOf (f fun _ => i)) (K (playOk (n ()) (m ())) [fenceObj (n ()) (fun i => trOf (f fun _ => i)) (m ()), outObj (m ()) fun i => trOf (f fun _ => i)])
    (K (playErr (n ()) (m ())) []))
  | _ => Bad 1002

def det4 : FuncId → Option Det := fun f => match f with
  | 14 => some clD
  | 15 => some paD
  | _ => none
theorem det4_ok : DetOk Try.prog det4 := fun f d h => by
  unfold det4 at h
  split at h
  · cases h; exact ⟨⟨Try.f14, Try.func14, by kernel_rfl, by kernel_rfl⟩, cl_ok⟩
  · cases h; exact ⟨⟨Try.f15, Try.func15, by kernel_rfl, by kernel_rfl⟩, pa_ok⟩
  · cases h

theorem bad_at {n : Int} {m k : Nat} {g : Nat → Tr} (hk : k < m) (hv : valid n (g k) = false) : okB n m g = false := by
  cases h : okB n m g with
  | false => rfl
  | true =>
    simp only [okB, Bool.and_eq_true] at h
    have := allB_iff.1 h.2 k hk
    rw [hv] at this; cases this

theorem valid_false {n : Int} {t : Tr} : valid n t = false ↔ (t.k ≠ 1 ∧ t.k ≠ 2) ∨ t.f < 0 ∨ n ≤ t.f ∨ whoB t.w = false ∨ epB t.e = false := by
  simp only [valid, Bool.and_eq_false_iff, Bool.or_eq_false_iff, beq_eq_false_iff_ne, decide_eq_false_iff_not, Int.not_le, Int.not_lt, ne_eq, or_assoc]
theorem valid_true {n : Int} {t : Tr} : valid n t = true ↔ (t.k = 1 ∨ t.k = 2) ∧ 0 ≤ t.f ∧ t.f < n ∧ whoB t.w = true ∧ epB t.e = true := by
  simp only [valid, Bool.and_eq_true, Bool.or_eq_true, beq_iff_eq, decide_eq_true_eq, and_assoc]

theorem st1 {g : Nat → Tr} {k i : Nat} (h1 : (g k).k = 1) (h2 : ¬ (g k).f < 0) :
    (bif decide (i = (g k).f.toNat) then clE (st g k (g k).f.toNat).1 (st g k (g k).f.toNat).2 (g k).w (g k).e else (st g k i).1) = (st g k.succ i).1 ∧
    (bif decide (i = (g k).f.toNat) then clO (st g k (g k).f.toNat).1 (st g k (g k).f.toNat).2 (g k).w (g k).e else (st g k i).2) = (st g k.succ i).2 := by
  have h3 : (g k).f = (i : Int) ↔ i = (g k).f.toNat := by omega
  simp only [st, h1, h3, true_and]
  by_cases h4 : i = (g k).f.toNat
  · rw [if_pos h4, ← h4]; simp
  · rw [if_neg h4]; simp [h4]
theorem st0 {g : Nat → Tr} {k i : Nat} (h1 : ¬ (g k).k = 1) : st g k i = st g k.succ i := by simp [st, h1]
theorem out1 {g : Nat → Tr} {k i : Nat} (hi : i < k.succ) (h1 : (g k).k = 1) : (bif decide (i < k) then outB g i else clB (st g k (g k).f.toNat).1 (st g k (g k).f.toNat).2 (g k).w (g k).e) = outB g i := by
  by_cases h : i < k
  · simp [h]
  · have : i = k := by omega
    subst this
    simp [outB, h1]
theorem out0 {g : Nat → Tr} {k i : Nat} (hi : i < k.succ) (h1 : ¬ (g k).k = 1) : (bif decide (i < k) then outB g i else paB (st g k (g k).f.toNat).1 (st g k (g k).f.toNat).2 (g k).w (g k).e) = outB g i := by
  by_cases h : i < k
  · simp [h]
  · have : i = k := by omega
    subst this
    simp [outB, h1]

structure PX (n : Int) (m : Nat) (g : Nat → Tr) where
  k : Nat
  hk : k ≤ m
  hv : ∀ j, j < k → valid n (g j) = true

set_option maxRecDepth 100000
def playK (n : Int) (m : Nat) (g : Nat → Tr) : Kont := Alt (fun _ => okB n m g) (outLe 0 (playOk n m) [fenceObj n g m, outObj m g] []) (outLe 0 (playErr n m) [] [])

theorem play_vc (n : Int) (m : Nat) (g : Nat → Tr) : FnOk Try.prog 12 [.i .i64 fun _ => n, .sl 4 (fun _ => m) fun i => tryL (g (i ()))] [] (playK n m g) := by
  refine fn_ok envOk zl con1_ok (draws_ok envOk det4_ok mixed) (keep := [0,1,4,5,6,7,8,10,11,12,18,21,24,25,26,27,60,67]) Try.func12 rfl ?_
  have bad : ∀ r H kl, (okB n m g = false ∧ r = errV n m) → playK n m g (.tup [.nil, .nil, .i .i64 fun _ => r]) H kl := by
    rintro r H kl ⟨h1, rfl⟩
    refine .no h1 ?_
    unfold outLe
    rw [below_zero]
    cbv
    repeat' first | exact trivial | rfl | refine Both.mk ?_ ?_ | refine Eq'.mk ?_
  have good : okB n m g = true → ∀ H, playK n m g (playOk n m) (fenceObj n g m :: outObj m g :: H) [1] := by
    intro h1 H
    refine .yes h1 ?_
    cbv
    repeat' first | exact trivial | rfl | refine Both.mk ?_ ?_ | refine Imp.mk fun _ => ?_ | refine Ob.mk ?_ ?_ | refine Eq'.mk ?_ | (refine AllN.mk fun i hi => ?_; cbv)
  generalize hK : playK n m g = K at bad good ⊢
  cbv
  refine Both.mk (Imp.mk fun h1 => bad _ _ _ ?_) (Imp.mk fun h1 => Both.mk (Imp.mk fun h2 => bad _ _ _ ?_) (Imp.mk fun h2 => Both.mk (Imp.mk fun h3 => bad _ _ _ ?_) (Imp.mk fun h3 => Ob.mk ?_ ?_)))
  · simp_all [okB, errV]; omega
  · simp_all [okB, errV]; omega
  · simp_all [okB, errV, nc]; omega
  · simp_all; omega
  · have hn : 0 ≤ n ∧ n ≤ 8 ∧ m ≤ 500 := by simp_all [nc]; omega
    refine LoopVC.mk (PX n m g) (fun x => [(0, .i .i64 fun _ => n), (7, .own 0 fun _ => n.toNat), (8, .own 1 fun _ => x.k), (24, .sl 4 (fun _ => m) fun i => tryL (g (i ()))), (25, .i .i64 fun _ => m), (26, .i .i64 fun _ => x.k)])
      (fun x => [fenceObj n g x.k, outObj x.k g]) [1] (fun x => m - x.k) ⟨0, Nat.zero_le _, fun j hj => absurd hj (Nat.not_lt_zero _)⟩ rfl (fun _ => rfl) ?_ ?_ fun ⟨k, hk, hv⟩ => ?_
    · cbv
      repeat' first | exact trivial | rfl | refine Both.mk ?_ ?_ | refine Imp.mk fun _ => ?_ | refine Ob.mk ?_ ?_ | refine Eq'.mk ?_ | (refine AllN.mk fun i hi => ?_; cbv)
    · cbv
      repeat' first | exact trivial | rfl | refine Both.mk ?_ ?_ | refine Imp.mk fun _ => ?_ | refine Ob.mk ?_ ?_ | refine Eq'.mk ?_ | (refine AllN.mk fun i hi => ?_; cbv)
    · cbv
      repeat' first | exact trivial | rfl | refine Both.mk ?_ ?_ | refine Imp.mk fun _ => ?_ | refine Ob.mk ?_ ?_ | refine Eq'.mk ?_
      all_goals dsimp only at *
      all_goals simp only [nc, Int.toNat_natCast, Bool.not_eq_true', Bool.not_eq_false', decide_eq_true_eq, decide_eq_false_iff_not, beq_iff_eq, beq_eq_false_iff_ne] at *
      all_goals first
        | (refine bad _ _ _ ⟨bad_at (k := k) (by omega) (valid_false.2 ?_), ?_⟩
           · first
             | exact .inl ⟨‹_›, ‹_›⟩ | exact .inr (.inl ‹_›) | exact .inr (.inr (.inl ‹_›)) | exact .inr (.inr (.inr (.inl ‹_›))) | exact .inr (.inr (.inr (.inr ‹_›)))
           · simp only [errV]; omega)
        | (refine ⟨⟨k + 1, by omega, fun j hj => ?_⟩, ?_, ?_, rfl, by dsimp only; omega⟩
           · rcases Nat.lt_succ_iff_lt_or_eq.1 hj with hj | rfl
             · exact hv j hj
             · refine valid_true.2 ⟨?_, by omega, by omega, ‹_›, ‹_›⟩
               first | exact .inl ‹_› | exact .inr ‹_›
           · cbv
             repeat' first | exact trivial | rfl | refine Both.mk ?_ ?_ | refine Imp.mk fun _ => ?_ | refine Ob.mk ?_ ?_ | refine Eq'.mk ?_ | (refine AllN.mk fun i hi => ?_; cbv)
           · cbv
             repeat' first | exact trivial | rfl | refine Both.mk ?_ ?_ | refine Imp.mk fun _ => ?_ | refine Ob.mk ?_ ?_ | refine Eq'.mk ?_ | (refine AllN.mk fun i hi => ?_; cbv)
             all_goals dsimp only
             all_goals first
               | exact (st1 ‹_› ‹_›).1 | exact (st1 ‹_› ‹_›).2 | exact congrArg Prod.fst (st0 ‹_›) | exact congrArg Prod.snd (st0 ‹_›) | exact out1 ‹_› ‹_› | exact out0 ‹_› ‹_›)
        | (simp only [InR]; omega)
        | omega
        | (have hkm : k = m := by omega
           subst hkm
           refine good ?_ []
           simp only [okB, Bool.and_eq_true, decide_eq_true_eq]
           exact ⟨⟨⟨by omega, by omega⟩, by omega⟩, allB_iff.2 hv⟩)

theorem sl_le {m : Nat} {f : Th Nat → List AV} (h : ∀ i, i < m → shape4 (f fun _ => i) = true) : le 0 (.sl 4 (fun _ => m) f) (.sl 4 (fun _ => m) fun i => tryL (trOf (f fun _ => i ()))) :=
  .mk (.mk rfl) (.mk fun i hi => .mk (shape4_le (h i hi)) rfl)

theorem play_ok : PcOk Try.prog 12 playC := fun A K h => by
  unfold playC at h
  split at h
  · rename_i n m f
    cases h with
    | mk h1 h2 =>
      refine FnOk.pre ?_ (A' := [.i .i64 fun _ => n (), .sl 4 (fun _ => m ()) fun i => tryL (trOf (f fun _ => i ()))]) (.mk (.mk (.mk rfl) (.mk rfl)) (.mk (sl_le h1) trivial))
      exact FnOk.alt (K := fun r H _ => K r H) (play_vc (n ()) (m ()) fun i => trOf (f fun _ => i)) rfl rfl h2
  · cases h

end Go.Proofs.Ytpooooomhnehfaa
