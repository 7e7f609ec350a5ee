/- All works are done in time; no time is nobody's while some work is there; for all inputs. -/
import Derived.Test.YthbdlihmafcioaaLockE
set_option linter.all false
namespace Go.Proofs.Ythbdlihmafcioaa
open Go Go.Abs

def lastW (l : List Work) : Nat → Int
  | 0 => 0
  | n + 1 => max (lastW l n) (l.getD n Dat.d0).came
theorem lastW_le {l : List Work} : ∀ {n i : Nat}, i < n → (l.getD i Dat.d0).came ≤ lastW l n
  | n + 1, i, h => by
    rw [lastW]
    rcases Nat.lt_or_ge i n with h1 | h1
    · have := lastW_le (l := l) h1; omega
    · rw [show i = n by omega]; omega
theorem lastW_0 {l : List Work} : ∀ {n : Nat}, 0 ≤ lastW l n
  | 0 => Int.le_refl _
  | n + 1 => by have := lastW_0 (l := l) (n := n); rw [lastW]; omega
theorem lastW_up {l : List Work} (h : lckV l = 0) : ∀ {n : Nat}, n ≤ l.length → lastW l n ≤ 1000
  | 0, _ => by show (0 : Int) ≤ 1000; decide
  | n + 1, hn => by
    have := lastW_up h (n := n) (by omega)
    have h2 := (lck_get h (show n < l.length by omega)).2.2.2
    rw [lastW]; omega
theorem totS_b {l : List Work} (h : lckV l = 0) : ∀ {n : Nat}, n ≤ l.length → 0 ≤ totS l n ∧ totS l n ≤ 3000 * n
  | 0, _ => by exact ⟨Int.le_refl _, Int.le_refl _⟩
  | n + 1, hn => by
    have := totS_b h (n := n) (by omega)
    obtain ⟨h1, h2, _⟩ := lck_get h (show n < l.length by omega)
    have h3 := sum_le h2
    have h4 := (rgt_sum h2).1
    rw [totS]; omega
theorem cntI_s {i : Int} : ∀ {l : List Int} {t : Nat}, t < l.length → cntI i (l.take (t + 1)) = cntI i (l.take t) + if l.getD t 0 = i then 1 else 0
  | x :: l, 0, _ => by simp [cntI]
  | x :: l, t + 1, h => by
    have := cntI_s (i := i) (l := l) (t := t) (by simpa using h)
    simp only [List.take_succ_cons, cntI, List.getD_cons_succ] at this ⊢
    omega
theorem cntI_b {i : Int} : ∀ {l : List Int}, 0 ≤ cntI i l ∧ cntI i l ≤ l.length
  | [] => ⟨Int.le_refl _, Int.le_refl _⟩
  | x :: l => by
    have := cntI_b (i := i) (l := l)
    rw [cntI, List.length_cons]
    split <;> omega
structure EwX (l : List Work) where
  k : Nat
  hk : k ≤ l.length
structure EiX (l : List Work) where
  i : Nat
  hi : i ≤ l.length
structure EtX (n : Nat) where
  t : Nat
  ht : t ≤ n
attribute [local irreducible] playLk
noncomputable def cEn : FuncId → Con := fun f => match f with
  | 8 => pureCon lkPlay_C
  | 9 => pureCon (detPC lkLives_D)
  | 10 => pureCon unitsC_C
  | _ => fun _ _ _ => Bad 1001
theorem cEn_ok : ConOk Try.prog cEn := fun f A H K h => by
  unfold cEn at h
  split at h
  · exact ⟨⟨Try.f8, Try.func8, by kernel_rfl, by kernel_rfl⟩, pureCon_ok lkPlay_ok h⟩
  · exact ⟨⟨Try.f9, Try.func9, by kernel_rfl, by kernel_rfl⟩, pureCon_ok lkLives_ok h⟩
  · exact ⟨⟨Try.f10, Try.func10, by kernel_rfl, by kernel_rfl⟩, pureCon_ok unitsC_ok h⟩
  · cases h
set_option maxRecDepth 100000 in
set_option maxHeartbeats 4000000 in
theorem lkends_vc (l : (List Work)) (u : Int) (fit_l : Siz.fit l) (fit_u : Siz.fit u) (hB : Siz.bulk l + Siz.bulk u ≤ 1048576) : FnOk Try.prog 4 [Leaf.av fun _ => l, .i .i64 fun _ => u] [] (outA (.bc true) []) := by
  refine fn_ok envOk zl cEn_ok noDraws_ok (keep := [0, 1, 4, 5, 6, 7, 8, 10, 11, 12, 13, 14, 15, 42, 48, 49, 50, 51, 65, 66, 67, 68, 80, 82, 83, 84, 85, 91, 109, 129, 152]) Try.func4 rfl ?_
  have fin := @fin_b
  have finc := @fin_t
  have hl : l.length ≤ 9223372036854775807 := by
    have h1 := bulk_len (α := Work) Work.one_le l
    simp only [Siz.bulk] at hB h1
    omega
  generalize outA (.bc true) [] = K at fin finc
  cbv
  repeat' first | (show Stp _; exfalso; first | omega | (exact h ‹_›) | (exact absurd ‹_› h) | (exact Bool.false_ne_true (h.symm.trans (show _ = true by assumption)))) | (refine Stp.mk ?_; cbv) | (refine Gen.mk fun r hr => ?_; (try simp only [Dat.ok, Dat.dec, Leaf.ok, Leaf.val, Act.eta, Work.eta, Locked.eta, val_sl, val_nil] at hr); cbv) | exact trivial | rfl | refine Both.mk ?_ ?_ | (refine Imp.mk fun h => ?_; (try dsimp only at h); (try simp only [nc, Int.toNat_natCast, ne_eq, zz] at h); (try simp only [nc] at h)) | refine Ob.mk ?_ ?_ | refine Chk.mk (by kernel_rfl) ?_ | refine Eq'.mk ?_ | (refine AllN.mk fun i hi => ?_; cbv) | (refine AllC.mk fun c hc hcm => ?_; (try dsimp only at hc); cbv) | (refine AllS.mk fun r hr => ?_; (try simp only [Dat.ok, Dat.dec, Leaf.ok, Leaf.val, Act.eta, Work.eta, Locked.eta, val_sl] at hr); cbv)
  all_goals ((try dsimp only at *); (try simp only [nc, Int.toNat_natCast, ne_eq, zz] at *); (try simp only [nc] at *))
  all_goals try simp only [Dat.dec, Leaf.val, Act.eta, Work.eta, Locked.eta, val_sl] at *
  all_goals have g1 := fun h => @lk_len l u h
  all_goals first
    | exact ⟨⟨rfl, fun i _ => Dat.hok _⟩, hl⟩
    | (refine fin ?_
       show (!(_ == (0 : Int))) = true
       simp only [Bool.not_eq_true', beq_eq_false_iff_ne, ne_eq]
       assumption)
    | (exfalso
       rename (_ = playLk l u) => z2
       rw [← z2] at g1
       have q1 := g1 (by assumption)
       omega)
    | skip
  rename (_ = playLk l u) => z2
  subst z2
  have e1 : (playLk l u).2 = 0 := by assumption
  have hk0 := (playLk_ok e1).1
  have PD := fun i hi => @lk_done l u (lastW l l.length) e1 i hi lastW_0 (lastW_le hi)
  have PR := fun t i => @lk_ran l u e1 t i
  have PE := fun i hi => @lk_end l u e1 i hi
  have b1 := g1 e1
  clear g1
  have uu := (playLk_ok e1).2.2.1
  have h8 := (lck_iff.1 hk0).1
  generalize playLk l u = p at *
  have SB := fun n hn => @totS_b l hk0 n hn
  have LU := fun n hn => @lastW_up l hk0 n hn
  refine LoopVC.frame [7, 8, 10, 50, 51] (EwX l) (fun x => [(50, .i .i64 fun _ => x.k), (7, .i .i64 fun _ => lastW l x.k), (8, .i .i64 fun _ => totS l x.k)]) (fun _ => []) [] (fun x => l.length - x.k) ⟨0, Nat.zero_le _⟩ rfl (fun _ => rfl) ?_ ?_ fun ⟨k, hk⟩ => ?_
  iterate 2
    · cbv
      repeat' first | (refine Stp.mk ?_; cbv) | (refine Gen.mk fun r hr => ?_; (try simp only [Dat.ok, Dat.dec, Leaf.ok, Leaf.val, Act.eta, Work.eta, Locked.eta, val_sl, val_nil] at hr); cbv) | exact trivial | rfl | refine Both.mk ?_ ?_ | (refine Imp.mk fun h => ?_; (try dsimp only at h); (try simp only [nc, Int.toNat_natCast, ne_eq, zz] at h); (try simp only [nc] at h)) | refine Ob.mk ?_ ?_ | refine Chk.mk (by kernel_rfl) ?_ | refine Eq'.mk ?_ | (refine AllN.mk fun i hi => ?_; cbv) | (refine AllC.mk fun c hc hcm => ?_; (try dsimp only at hc); cbv) | (refine AllS.mk fun r hr => ?_; (try simp only [Dat.ok, Dat.dec, Leaf.ok, Leaf.val, Act.eta, Work.eta, Locked.eta, val_sl] at hr); cbv)
  have sb := SB k hk
  have lu := LU k hk
  have lg := fun h => @lck_get l hk0 k h
  cbv
  repeat' first | (show Stp _; exfalso; first | omega | (exact h ‹_›) | (exact absurd ‹_› h) | (exact Bool.false_ne_true (h.symm.trans (show _ = true by assumption)))) | (refine Stp.mk ?_; cbv) | (refine Gen.mk fun r hr => ?_; (try simp only [Dat.ok, Dat.dec, Leaf.ok, Leaf.val, Act.eta, Work.eta, Locked.eta, val_sl, val_nil] at hr); cbv) | exact trivial | rfl | refine Both.mk ?_ ?_ | (refine Imp.mk fun h => ?_; (try dsimp only at h); (try simp only [nc, Int.toNat_natCast, ne_eq, zz] at h); (try simp only [nc] at h)) | refine Ob.mk ?_ ?_ | refine Chk.mk (by kernel_rfl) ?_ | refine Eq'.mk ?_ | (refine AllN.mk fun i hi => ?_; cbv) | (refine AllC.mk fun c hc hcm => ?_; (try dsimp only at hc); cbv) | (refine AllS.mk fun r hr => ?_; (try simp only [Dat.ok, Dat.dec, Leaf.ok, Leaf.val, Act.eta, Work.eta, Locked.eta, val_sl] at hr); cbv)
  all_goals ((try dsimp only at *); (try simp only [nc, Int.toNat_natCast, ne_eq, zz] at *); (try simp only [nc] at *))
  all_goals try rw [nc] at *
  all_goals try simp only [Dat.dec, Leaf.val, Act.eta, Work.eta, Locked.eta, val_sl] at *
  all_goals try first
    | omega
    | (unfold InR; omega)
    | exact ⟨by omega, by omega⟩
    | (have c0 : k < l.length := by omega
       exact ⟨Dat.hok fun _ => l.getD k Dat.d0, (lg c0).1, (lg c0).2.1⟩)
    | (have c0 : k < l.length := by omega
       have c1 := lg c0
       have c2 : r = unitA 0 (l.getD k Dat.d0).acts := by assumption
       have c3 := unit_len (i := 0) c1.2.1
       rw [← c2] at c3
       have c4 := sum_le c1.2.1
       have c5 := (rgt_sum c1.2.1).1
       first
         | (unfold InR; omega)
         | (refine ⟨⟨k + 1, by omega⟩, ?_, ?_, rfl, by (try dsimp only); omega⟩
            · cbv
              repeat' first | (refine Stp.mk ?_; cbv) | (refine Gen.mk fun r hr => ?_; (try simp only [Dat.ok, Dat.dec, Leaf.ok, Leaf.val, Act.eta, Work.eta, Locked.eta, val_sl, val_nil] at hr); cbv) | exact trivial | rfl | refine Both.mk ?_ ?_ | (refine Imp.mk fun h => ?_; (try dsimp only at h); (try simp only [nc, Int.toNat_natCast, ne_eq, zz] at h); (try simp only [nc] at h)) | refine Ob.mk ?_ ?_ | refine Chk.mk (by kernel_rfl) ?_ | refine Eq'.mk ?_ | (refine AllN.mk fun i hi => ?_; cbv) | (refine AllC.mk fun c hc hcm => ?_; (try dsimp only at hc); cbv) | (refine AllS.mk fun r hr => ?_; (try simp only [Dat.ok, Dat.dec, Leaf.ok, Leaf.val, Act.eta, Work.eta, Locked.eta, val_sl] at hr); cbv)
              all_goals first
                | rfl
                | exact max_if
                | exact congrArg (fun z => totS l k + z) c3
                | (have e : totS l (k + 1) = totS l k + sumN (l.getD k Dat.d0).acts := rfl
                   exact (by rw [e]; omega : totS l k + (r.length : Int) = totS l (k + 1)))
                | fail
            · cbv
              repeat' first | (refine Stp.mk ?_; cbv) | (refine Gen.mk fun r hr => ?_; (try simp only [Dat.ok, Dat.dec, Leaf.ok, Leaf.val, Act.eta, Work.eta, Locked.eta, val_sl, val_nil] at hr); cbv) | exact trivial | rfl | refine Both.mk ?_ ?_ | (refine Imp.mk fun h => ?_; (try dsimp only at h); (try simp only [nc, Int.toNat_natCast, ne_eq, zz] at h); (try simp only [nc] at h)) | refine Ob.mk ?_ ?_ | refine Chk.mk (by kernel_rfl) ?_ | refine Eq'.mk ?_ | (refine AllN.mk fun i hi => ?_; cbv) | (refine AllC.mk fun c hc hcm => ?_; (try dsimp only at hc); cbv) | (refine AllS.mk fun r hr => ?_; (try simp only [Dat.ok, Dat.dec, Leaf.ok, Leaf.val, Act.eta, Work.eta, Locked.eta, val_sl] at hr); cbv)))
  have ek : k = l.length := by omega
  subst ek
  have lw0 := @lastW_0 l l.length
  refine LoopVC.frame [4, 11, 12, 13, 14, 15, 67, 68, 80, 82, 83, 84, 85, 91, 109, 129, 152] (EiX l) (fun x => [(67, .i .i64 fun _ => x.i)]) (fun _ => []) [] (fun x => l.length - x.i) ⟨0, Nat.zero_le _⟩ rfl (fun _ => rfl) ?_ ?_ fun ⟨i, hi⟩ => ?_
  iterate 2
    · cbv
      repeat' first | (refine Stp.mk ?_; cbv) | (refine Gen.mk fun r hr => ?_; (try simp only [Dat.ok, Dat.dec, Leaf.ok, Leaf.val, Act.eta, Work.eta, Locked.eta, val_sl, val_nil] at hr); cbv) | exact trivial | rfl | refine Both.mk ?_ ?_ | (refine Imp.mk fun h => ?_; (try dsimp only at h); (try simp only [nc, Int.toNat_natCast, ne_eq, zz] at h); (try simp only [nc] at h)) | refine Ob.mk ?_ ?_ | refine Chk.mk (by kernel_rfl) ?_ | refine Eq'.mk ?_ | (refine AllN.mk fun i hi => ?_; cbv) | (refine AllC.mk fun c hc hcm => ?_; (try dsimp only at hc); cbv) | (refine AllS.mk fun r hr => ?_; (try simp only [Dat.ok, Dat.dec, Leaf.ok, Leaf.val, Act.eta, Work.eta, Locked.eta, val_sl] at hr); cbv)
  have PD : i < l.length → lastW l l.length + totS l l.length ≤ u → ¬ p.1.ends.getD i Dat.d0 = 0 := PD i
  have PE : i < l.length → 0 < p.1.ends.getD i Dat.d0 → cntI i p.1.ran = sumN (l.getD i Dat.d0).acts ∧ p.1.ends.getD i Dat.d0 ≤ u ∧ p.1.ran.getD (p.1.ends.getD i Dat.d0 - 1).toNat Dat.d0 = i := PE i
  have lg := fun h => @lck_get l hk0 i h
  cbv
  repeat' first | (show Stp _; exfalso; first | omega | (exact h ‹_›) | (exact absurd ‹_› h) | (exact Bool.false_ne_true (h.symm.trans (show _ = true by assumption)))) | (refine Stp.mk ?_; cbv) | (refine Gen.mk fun r hr => ?_; (try simp only [Dat.ok, Dat.dec, Leaf.ok, Leaf.val, Act.eta, Work.eta, Locked.eta, val_sl, val_nil] at hr); cbv) | exact trivial | rfl | refine Both.mk ?_ ?_ | (refine Imp.mk fun h => ?_; (try dsimp only at h); (try simp only [nc, Int.toNat_natCast, ne_eq, zz] at h); (try simp only [nc] at h)) | refine Ob.mk ?_ ?_ | refine Chk.mk (by kernel_rfl) ?_ | refine Eq'.mk ?_ | (refine AllN.mk fun i hi => ?_; cbv) | (refine AllC.mk fun c hc hcm => ?_; (try dsimp only at hc); cbv) | (refine AllS.mk fun r hr => ?_; (try simp only [Dat.ok, Dat.dec, Leaf.ok, Leaf.val, Act.eta, Work.eta, Locked.eta, val_sl] at hr); cbv)
  all_goals ((try dsimp only at *); (try simp only [nc, Int.toNat_natCast, ne_eq, zz] at *); (try simp only [nc] at *))
  all_goals try rw [nc] at *
  all_goals try simp only [Dat.dec, Leaf.val, Act.eta, Work.eta, Locked.eta, val_sl] at *
  all_goals try first
    | omega
    | (unfold InR; omega)
    | exact ⟨by omega, by omega⟩
    | exact finc
    | (exfalso
       exact PD (by omega) (by omega) (by assumption))
  all_goals have hi2 : i < l.length := by omega
  all_goals (
    refine LoopVC.frame [4, 13, 14, 15, 84, 85, 91, 109, 129] (EtX p.1.ran.length) (fun x => [(84, .i .i64 fun _ => x.t), (13, .i .i64 fun _ => cntI i (p.1.ran.take x.t))]) (fun _ => []) [] (fun x => p.1.ran.length - x.t) ⟨0, Nat.zero_le _⟩ rfl (fun _ => rfl) ?_ ?_ fun ⟨t, ht⟩ => ?_
    iterate 2
      · cbv
        repeat' first | (refine Stp.mk ?_; cbv) | (refine Gen.mk fun r hr => ?_; (try simp only [Dat.ok, Dat.dec, Leaf.ok, Leaf.val, Act.eta, Work.eta, Locked.eta, val_sl, val_nil] at hr); cbv) | exact trivial | rfl | refine Both.mk ?_ ?_ | (refine Imp.mk fun h => ?_; (try dsimp only at h); (try simp only [nc, Int.toNat_natCast, ne_eq, zz] at h); (try simp only [nc] at h)) | refine Ob.mk ?_ ?_ | refine Chk.mk (by kernel_rfl) ?_ | refine Eq'.mk ?_ | (refine AllN.mk fun i hi => ?_; cbv) | (refine AllC.mk fun c hc hcm => ?_; (try dsimp only at hc); cbv) | (refine AllS.mk fun r hr => ?_; (try simp only [Dat.ok, Dat.dec, Leaf.ok, Leaf.val, Act.eta, Work.eta, Locked.eta, val_sl] at hr); cbv)
    have PR : (t : Int) < u → i < l.length → (p.1.ran.getD t Dat.d0 = i → (l.getD i Dat.d0).came ≤ t ∧ (p.1.ends.getD i Dat.d0 = 0 ∨ t < p.1.ends.getD i Dat.d0)) ∧ (p.1.ran.getD t Dat.d0 < 0 → (l.getD i Dat.d0).came ≤ t → ¬ (p.1.ends.getD i Dat.d0 = 0 ∨ t < p.1.ends.getD i Dat.d0)) := PR t i
    have cb := @cntI_b i (p.1.ran.take t)
    rw [List.length_take] at cb
    have cs : t < p.1.ran.length → cntI i (p.1.ran.take (t + 1)) = cntI i (p.1.ran.take t) + if p.1.ran.getD t Dat.d0 = i then 1 else 0 := fun h => @cntI_s i p.1.ran t h
    cbv
    repeat' first | (show Stp _; exfalso; first | omega | (exact h ‹_›) | (exact absurd ‹_› h) | (exact Bool.false_ne_true (h.symm.trans (show _ = true by assumption)))) | (refine Stp.mk ?_; cbv) | (refine Gen.mk fun r hr => ?_; (try simp only [Dat.ok, Dat.dec, Leaf.ok, Leaf.val, Act.eta, Work.eta, Locked.eta, val_sl, val_nil] at hr); cbv) | exact trivial | rfl | refine Both.mk ?_ ?_ | (refine Imp.mk fun h => ?_; (try dsimp only at h); (try simp only [nc, Int.toNat_natCast, ne_eq, zz] at h); (try simp only [nc] at h)) | refine Ob.mk ?_ ?_ | refine Chk.mk (by kernel_rfl) ?_ | refine Eq'.mk ?_ | (refine AllN.mk fun i hi => ?_; cbv) | (refine AllC.mk fun c hc hcm => ?_; (try dsimp only at hc); cbv) | (refine AllS.mk fun r hr => ?_; (try simp only [Dat.ok, Dat.dec, Leaf.ok, Leaf.val, Act.eta, Work.eta, Locked.eta, val_sl] at hr); cbv)
    all_goals ((try dsimp only at *); (try simp only [nc, Int.toNat_natCast, ne_eq, zz] at *); (try simp only [nc] at *))
    all_goals try rw [nc] at *
    all_goals try simp only [Dat.dec, Leaf.val, Act.eta, Work.eta, Locked.eta, val_sl] at *
    all_goals try first
      | omega
      | (unfold InR; omega)
      | exact ⟨by omega, by omega⟩
      | exact finc
      | (exfalso
         have q := PR (by omega) hi2
         have q1 := q.1 (by assumption)
         omega)
      | (exfalso
         have q := PR (by omega) hi2
         have q1 := q.2 (by assumption) (by omega)
         first
           | exact q1 (.inl (by assumption))
           | exact q1 (.inr (by assumption)))
      | (have cc := cs (by omega)
         first
           | rw [if_pos (by assumption)] at cc
           | rw [if_neg (by assumption)] at cc
         refine ⟨⟨t + 1, by omega⟩, ?_, ?_, rfl, by (try dsimp only); omega⟩
         · cbv
           repeat' first | (refine Stp.mk ?_; cbv) | (refine Gen.mk fun r hr => ?_; (try simp only [Dat.ok, Dat.dec, Leaf.ok, Leaf.val, Act.eta, Work.eta, Locked.eta, val_sl, val_nil] at hr); cbv) | exact trivial | rfl | refine Both.mk ?_ ?_ | (refine Imp.mk fun h => ?_; (try dsimp only at h); (try simp only [nc, Int.toNat_natCast, ne_eq, zz] at h); (try simp only [nc] at h)) | refine Ob.mk ?_ ?_ | refine Chk.mk (by kernel_rfl) ?_ | refine Eq'.mk ?_ | (refine AllN.mk fun i hi => ?_; cbv) | (refine AllC.mk fun c hc hcm => ?_; (try dsimp only at hc); cbv) | (refine AllS.mk fun r hr => ?_; (try simp only [Dat.ok, Dat.dec, Leaf.ok, Leaf.val, Act.eta, Work.eta, Locked.eta, val_sl] at hr); cbv)
           all_goals first | rfl | exact cc.symm | (rw [show cntI i (p.1.ran.take (t + 1)) = _ from cc]; omega)
         · cbv
           repeat' first | (refine Stp.mk ?_; cbv) | (refine Gen.mk fun r hr => ?_; (try simp only [Dat.ok, Dat.dec, Leaf.ok, Leaf.val, Act.eta, Work.eta, Locked.eta, val_sl, val_nil] at hr); cbv) | exact trivial | rfl | refine Both.mk ?_ ?_ | (refine Imp.mk fun h => ?_; (try dsimp only at h); (try simp only [nc, Int.toNat_natCast, ne_eq, zz] at h); (try simp only [nc] at h)) | refine Ob.mk ?_ ?_ | refine Chk.mk (by kernel_rfl) ?_ | refine Eq'.mk ?_ | (refine AllN.mk fun i hi => ?_; cbv) | (refine AllC.mk fun c hc hcm => ?_; (try dsimp only at hc); cbv) | (refine AllS.mk fun r hr => ?_; (try simp only [Dat.ok, Dat.dec, Leaf.ok, Leaf.val, Act.eta, Work.eta, Locked.eta, val_sl] at hr); cbv))
      | (refine ⟨⟨i + 1, by omega⟩, ?_, ?_, rfl, by (try dsimp only); omega⟩
         · cbv
           repeat' first | (refine Stp.mk ?_; cbv) | (refine Gen.mk fun r hr => ?_; (try simp only [Dat.ok, Dat.dec, Leaf.ok, Leaf.val, Act.eta, Work.eta, Locked.eta, val_sl, val_nil] at hr); cbv) | exact trivial | rfl | refine Both.mk ?_ ?_ | (refine Imp.mk fun h => ?_; (try dsimp only at h); (try simp only [nc, Int.toNat_natCast, ne_eq, zz] at h); (try simp only [nc] at h)) | refine Ob.mk ?_ ?_ | refine Chk.mk (by kernel_rfl) ?_ | refine Eq'.mk ?_ | (refine AllN.mk fun i hi => ?_; cbv) | (refine AllC.mk fun c hc hcm => ?_; (try dsimp only at hc); cbv) | (refine AllS.mk fun r hr => ?_; (try simp only [Dat.ok, Dat.dec, Leaf.ok, Leaf.val, Act.eta, Work.eta, Locked.eta, val_sl] at hr); cbv)
         · cbv
           repeat' first | (refine Stp.mk ?_; cbv) | (refine Gen.mk fun r hr => ?_; (try simp only [Dat.ok, Dat.dec, Leaf.ok, Leaf.val, Act.eta, Work.eta, Locked.eta, val_sl, val_nil] at hr); cbv) | exact trivial | rfl | refine Both.mk ?_ ?_ | (refine Imp.mk fun h => ?_; (try dsimp only at h); (try simp only [nc, Int.toNat_natCast, ne_eq, zz] at h); (try simp only [nc] at h)) | refine Ob.mk ?_ ?_ | refine Chk.mk (by kernel_rfl) ?_ | refine Eq'.mk ?_ | (refine AllN.mk fun i hi => ?_; cbv) | (refine AllC.mk fun c hc hcm => ?_; (try dsimp only at hc); cbv) | (refine AllS.mk fun r hr => ?_; (try simp only [Dat.ok, Dat.dec, Leaf.ok, Leaf.val, Act.eta, Work.eta, Locked.eta, val_sl] at hr); cbv))
      | exact ⟨Dat.hok fun _ => l.getD i Dat.d0, (lg hi2).1, (lg hi2).2.1⟩
      | (have q := PE hi2 (by assumption)
         have et : t = p.1.ran.length := by omega
         first
           | (unfold InR; omega)
           | omega
           | exact ⟨by omega, by omega⟩
           | (exfalso; exact absurd q.2.2 (by assumption))
           | (exfalso
              have c9 : ¬ cntI i (p.1.ran.take t) = (r.length : Int) := by assumption
              rw [et, List.take_length, q.1] at c9
              have c2 : r = unitA 0 (l.getD i Dat.d0).acts := by assumption
              have c3 := unit_len (i := 0) (lg hi2).2.1
              exact c9 (by rw [c2]; exact c3.symm)))
    all_goals fail)
section
open Go.ChangeShapes Go.WideShapes Go.ChangeAt Go.RowKit Go.Joins Go.Deep
set_option linter.unusedVariables false
theorem lkends_own : ownKnob Try.prog.godebug = none := by kernel_rfl
theorem lkends_laidOut : laidOutB Try.prog = true := by kernel_rfl
theorem lkends_readOk {ts : Array TypeId} (h : ts.toList.all (fun t => Try.prog.readableRec t && decide (t < Try.prog.types.size)) = true) : ∀ t ∈ ts.toList, Try.prog.readableRec t = true ∧ t < Try.prog.types.size := fun t ht => by
  have := List.all_eq_true.1 h t ht
  simpa using this
mutual
theorem lkends_bD {H : Type} : ∀ d : DataW H, Rows.uptoBulk d = bulkD d
  | .lit l => by cases l <;> simp [Rows.uptoBulk, bulkD]
  | .nil => by simp [Rows.uptoBulk, bulkD]
  | .ptr d => by simp [Rows.uptoBulk, bulkD, lkends_bD d]
  | .slice a b => by simp [Rows.uptoBulk, bulkD, lkends_bL a, lkends_bL b]
  | .agg a => by simp [Rows.uptoBulk, bulkD, lkends_bL a]
  | .iface _ d => by simp [Rows.uptoBulk, bulkD, lkends_bD d]
  | .map e => by simp [Rows.uptoBulk, bulkD, lkends_bE e]
  | .held _ => by simp [Rows.uptoBulk, bulkD]
theorem lkends_bL {H : Type} : ∀ d : List (DataW H), Rows.uptoBulkAll d = bulkL d
  | [] => by simp [Rows.uptoBulkAll, bulkL]
  | d :: r => by simp [Rows.uptoBulkAll, bulkL, lkends_bD d, lkends_bL r]
theorem lkends_bE {H : Type} : ∀ d : List (Lit × DataW H), Rows.uptoBulkEntries d = bulkE d
  | [] => by simp [Rows.uptoBulkEntries, bulkE]
  | d :: r => by simp [Rows.uptoBulkEntries, bulkE, lkends_bX d, lkends_bE r]
theorem lkends_bX {H : Type} : ∀ d : Lit × DataW H, Rows.uptoBulkEntry d = bulkX d
  | (l, d) => by cases l <;> simp [Rows.uptoBulkEntry, bulkX, lkends_bD d]
end
set_option maxRecDepth 100000 in
theorem lkends_lifted (os : Os) (started : os.Started) (H : Type) (enc : TypeId × Value → H) (F : Stop.Interp) :
    ReturnsInHanded {} Try.checked os 4 .any ((Rows.OpenSpec.upto Rows.lockEndsSpec).pre6 enc Try.prog Try.f4 Rows.lockEndsUptoRow.domain false) (((Rows.OpenSpec.upto Rows.lockEndsSpec).at F).post enc Try.prog Try.f4 false true false false) := by
  refine returnsInHanded_of_cond (C := Try.checked) (s := Rows.OpenSpec.upto Rows.lockEndsSpec) (k := Rows.uptoSmall) rfl lkends_own started (by kernel_rfl) Try.func4
    (OpenSpec.witness (enc := enc) (C := Try.checked) (s := Rows.OpenSpec.upto Rows.lockEndsSpec) (k := Rows.uptoSmall) rfl false ⟨#[], #[.slice none 0 0, .int .i64 0], []⟩ 8 (by kernel_rfl) (by kernel_rfl) (by kernel_rfl)
      (x := ([.nil, .lit (.int .i64 0)], [], [])) (by kernel_rfl) rfl (by kernel_rfl)) ?_
  intro W base args ds gs before hval0 hW _ hk _
  show Calls Try.prog 4 args W fun e W' => ∃ v, e = .returned v ∧ Rows.lockEndsSpec.post enc Try.prog Try.f4 false true false false W args v W'
  have hval : ∀ (j : Nat) t v, Try.f4.params[j]? = some t → args[j]? = some v → Value.okWide Try.prog W .any base t v := hval0
  have hW' := hW
  have hlt := hW.lt
  obtain ⟨p, q, hA0, hV, rfl, hfz, hnd⟩ := hW
  have hA : DataW.TrodAll enc Try.prog W 0 (fun _ => true) true Try.f4.params.toList args.toList ds p := hA0
  have hA1 := hA
  rw [Try.params4] at hA hval
  obtain ⟨v0, vs0, d0, ds0, p0, q0, hargs, rfl, rfl, h0, r0⟩ := trodAll_cons hA
  obtain ⟨v1, vs1, d1, ds1, p1, q1, rfl, rfl, rfl, h1, r1⟩ := trodAll_cons r0
  obtain ⟨rfl, rfl, rfl⟩ := trodAll_nil r1
  obtain rfl : args = #[v0, v1] := by cases args; simp_all
  obtain ⟨rfl, rfl⟩ := trodVars_none hV
  obtain ⟨z0, z'0, z''0, rfl⟩ := okWide_slice Try.underlying22 (hval 0 22 v0 rfl rfl)
  obtain ⟨y0, u0, b0, e0⟩ := arg_leaf (α := (List Work)) (opn_slice Try.underlying22 (by kernel_rfl) (by decide) opn_Work) rfl h0
  obtain ⟨z1, rfl⟩ := okWide_int Try.underlying3 (hval 1 3 v1 rfl rfl)
  obtain ⟨y1, u1, b1, e1⟩ := arg_leaf (α := Int) (opn_int Try.underlying3) rfl h1
  have hB : Siz.bulk y0 + Siz.bulk y1 ≤ 1048576 := by
    have h := of_decide_eq_true hk
    rw [lkends_bL] at h
    simp only [List.append_nil, bulkL] at h
    omega
  have hR := repL_cons (M := fun _ => False) (β := fun _ => none) (cp := fun _ => 0) (.c e0) (repL_cons (M := fun _ => False) (β := fun _ => none) (cp := fun _ => 0) (.c e1) (repL_nil))
  refine (law_callsA (lkends_vc y0 y1 u0 u1 hB) hR).mono fun e W' ⟨he, bel⟩ => ?_
  subst he
  exact ⟨_, rfl, _, _, _, [], _, [], hW', trodAll_mk1 (shut_bool Try.underlying4 _), trodAll_below lkends_laidOut bel (lkends_readOk (by kernel_rfl)) (fun x hx => hlt x (List.mem_append_left _ hx)) hA1, rfl, bel.frame _, fun h => by cases h⟩
theorem LockEnds_proved : Rows.LockEndsUptoSaid :=
  OpenClaim.holds_of_cond 4 Try.f4 rfl rfl rfl rfl rfl rfl rfl ⟨rfl, rfl, rfl, rfl, rfl⟩ rfl rfl rfl rfl rfl (by kernel_rfl) Try.func4 (by kernel_rfl)
    (of_decide_eq_true (by kernel_rfl)) (by unfold Func.isWrapper; first | (rw [if_pos (by decide +kernel)]; kernel_rfl) | (rw [if_neg (by decide +kernel)]; exact ⟨rfl, rfl⟩))
    (fun os started H enc _ F => lkends_lifted os started H enc F)
end

end Go.Proofs.Ythbdlihmafcioaa
