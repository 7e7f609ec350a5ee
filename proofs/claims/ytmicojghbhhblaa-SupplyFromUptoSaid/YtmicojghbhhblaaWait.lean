/- The program's functions, walked: Wait. -/
import Derived.Test.YtmicojghbhhblaaSupply2
set_option linter.all false
namespace Go.Proofs.Ytmicojghbhhblaa
open Go Go.Abs
/-- A search by halves. -/
def bs (p : Int → Bool) : Nat → Int → Int → Int
  | 0, lo, _ => lo
  | f + 1, lo, hi => if lo < hi then (if p ((lo + hi) / 2) = true then bs p f lo ((lo + hi) / 2) else bs p f ((lo + hi) / 2 + 1) hi) else lo
theorem bs_fuel {p : Int → Bool} : ∀ {f g : Nat} {lo hi : Int}, (hi - lo).toNat ≤ f → (hi - lo).toNat ≤ g → bs p f lo hi = bs p g lo hi
  | 0, 0, _, _, _, _ => rfl
  | 0, g + 1, lo, hi, h1, _ => by rw [bs, bs, if_neg (by omega)]
  | f + 1, 0, lo, hi, _, h2 => by rw [bs, bs, if_neg (by omega)]
  | f + 1, g + 1, lo, hi, h1, h2 => by
    rw [bs, bs]
    split
    · split
      · exact bs_fuel (by omega) (by omega)
      · exact bs_fuel (by omega) (by omega)
    · rfl
def bsN (p : Int → Bool) (lo hi : Int) : Int := bs p (hi - lo).toNat lo hi
theorem bsN_lt {p : Int → Bool} {lo hi : Int} (h : lo < hi) : bsN p lo hi = if p ((lo + hi) / 2) = true then bsN p lo ((lo + hi) / 2) else bsN p ((lo + hi) / 2 + 1) hi := by
  obtain ⟨f, hf⟩ : ∃ f, (hi - lo).toNat = f + 1 := ⟨(hi - lo).toNat - 1, by omega⟩
  unfold bsN
  rw [hf, bs, if_pos h]
  split
  · exact bs_fuel (by omega) (by omega)
  · exact bs_fuel (by omega) (by omega)
theorem bsN_ge {p : Int → Bool} {lo hi : Int} (h : ¬ lo < hi) : bsN p lo hi = lo := by
  unfold bsN
  rw [show (hi - lo).toNat = 0 by omega, bs]
/-- The first of all. -/
theorem bsN_spec {p : Int → Bool} (hp : ∀ a b, a ≤ b → p a = true → p b = true) : ∀ (f : Nat) (lo hi : Int), (hi - lo).toNat ≤ f → lo ≤ hi → lo ≤ bsN p lo hi ∧ bsN p lo hi ≤ hi ∧ (∀ m, lo ≤ m → m < bsN p lo hi → p m = false) ∧ (bsN p lo hi < hi → p (bsN p lo hi) = true)
  | 0, lo, hi, h, hl => by rw [bsN_ge (by omega)]; exact ⟨by omega, hl, fun m _ _ => by omega, fun _ => by omega⟩
  | f + 1, lo, hi, h, hl => by
    by_cases hlt : lo < hi
    · rw [bsN_lt hlt]
      by_cases hm : p ((lo + hi) / 2) = true
      · rw [if_pos hm]
        obtain ⟨i1, i2, i3, i4⟩ := bsN_spec hp f lo ((lo + hi) / 2) (by omega) (by omega)
        refine ⟨i1, by omega, i3, fun _ => ?_⟩
        by_cases he : bsN p lo ((lo + hi) / 2) < (lo + hi) / 2
        · exact i4 he
        · rw [show bsN p lo ((lo + hi) / 2) = (lo + hi) / 2 by omega]; exact hm
      · rw [if_neg hm]
        obtain ⟨i1, i2, i3, i4⟩ := bsN_spec hp f ((lo + hi) / 2 + 1) hi (by omega) (by omega)
        refine ⟨by omega, i2, fun m h1 h2 => ?_, i4⟩
        by_cases hmm : (lo + hi) / 2 + 1 ≤ m
        · exact i3 m hmm h2
        · cases hpm : p m with
          | false => rfl
          | true => exact absurd (hp m _ (by omega) hpm) hm
    · rw [bsN_ge hlt]; exact ⟨by omega, hl, fun m _ _ => by omega, fun _ => by omega⟩
theorem mid_eq {a b : Int} (h0 : 0 ≤ a) (h1 : a ≤ b) (h2 : b ≤ 4611686018427387903) : IntKind.i64.wrap (bShr .u64 (IntKind.u64.wrap (a + b)) 1) = (a + b) / 2 := by
  have e1 : IntKind.u64.wrap (a + b) = a + b := by
    simp only [IntKind.wrap, IntKind.bits, IntKind.signed]
    simp
    omega
  rw [e1]
  have e2 : bShr .u64 (a + b) 1 = (a + b) / 2 := by
    unfold bShr
    simp [IntKind.bits]
    rw [Int.fdiv_eq_ediv_of_nonneg _ (by omega)]
  rw [e2]
  exact wrap64_in (by unfold InR; omega)

def fewV (s : Set) (need : Int) (have_ : Int → Int) : Int × Int :=
  if need = 0 then (0, 0) else if s.spans.length = 0 then (0, 7) else (bsN (fun n => decide (need ≤ have_ n)) 0 (s.size * (need + 2)), 0)
def waitV (s : Set) (need : Int) : Int × Int :=
  if checkV s = 0 then (if need < 0 ∨ 1000000 < need then (0, 1) else fewV s need (leastV s)) else (0, checkV s)
noncomputable def cW0 : FuncId → Con := fun f => match f with
  | 38 => pureCon (detPC least_D)
  | _ => fun _ _ _ => Bad 1001
theorem cW0_ok : ConOk Try.prog cW0 := fun f A H K h => by
  unfold cW0 at h
  split at h
  · exact ⟨⟨Try.f38, Try.func38, by kernel_rfl, by kernel_rfl⟩, pureCon_ok least_ok h⟩
  · cases h
noncomputable def cW1 : FuncId → Con := fun f => match f with
  | 37 => inlCon E cW0 (draws E noDet) [0, 1, 3, 4] Try.f37
  | _ => fun _ _ _ => Bad 1001
theorem cW1_ok : ConOk Try.prog cW1 := fun f A H K h => by
  unfold cW1 at h
  split at h
  · exact ⟨⟨Try.f37, Try.func37, by kernel_rfl, by kernel_rfl⟩, inl_ok envOk zl cW0_ok (draws_ok envOk noDet_ok mixed) Try.func37 h⟩
  · cases h
noncomputable def cW2 : FuncId → Con := fun f => match f with
  | 51 => inlCon E cW1 noDraws [0, 1, 2, 4, 5] Try.f51
  | _ => fun _ _ _ => Bad 1001
theorem cW2_ok : ConOk Try.prog cW2 := fun f A H K h => by
  unfold cW2 at h
  split at h
  · exact ⟨⟨Try.f51, Try.func51, by kernel_rfl, by kernel_rfl⟩, inl_ok envOk zl cW1_ok noDraws_ok Try.func51 h⟩
  · cases h
noncomputable def cW3 : FuncId → Con := fun f => match f with
  | 50 => inlCon E cW2 noDraws [0, 1, 4, 5, 6, 7, 11, 21] Try.f50
  | _ => fun _ _ _ => Bad 1001
theorem cW3_ok : ConOk Try.prog cW3 := fun f A H K h => by
  unfold cW3 at h
  split at h
  · exact ⟨⟨Try.f50, Try.func50, by kernel_rfl, by kernel_rfl⟩, inl_ok envOk zl cW2_ok noDraws_ok Try.func50 h⟩
  · cases h
noncomputable def cW4 : FuncId → Con := fun f => match f with
  | 29 => pureCon (detPC check_D)
  | 36 => inlCon E cW3 noDraws [0, 1, 2, 3, 4, 5, 6, 7, 9, 13] Try.f36
  | _ => fun _ _ _ => Bad 1001
theorem cW4_ok : ConOk Try.prog cW4 := fun f A H K h => by
  unfold cW4 at h
  split at h
  · exact ⟨⟨Try.f29, Try.func29, by kernel_rfl, by kernel_rfl⟩, pureCon_ok check_ok h⟩
  · exact ⟨⟨Try.f36, Try.func36, by kernel_rfl, by kernel_rfl⟩, inl_ok envOk zl cW3_ok noDraws_ok Try.func36 h⟩
  · cases h
def wait_R (r : Th (Int × Int)) : AV := .tup [.i .i64 fun _ => (r ()).1, .i .i64 fun _ => (r ()).2]
def wait_P (s : Set) (need : Int) : Prop := s.spans.length ≤ 9223372036854775807
def wait_D : Det := fun A => match A with
  | [.agg s, .i .i64 need] => some (fun _ => Dat.ok Set s ∧ wait_P (Dat.dec s) (need ()), wait_R fun _ => waitV (Dat.dec s) (need ()))
  | _ => none
structure BsX (p : Int → Bool) (N : Int) where
  i : Int
  j : Int
  h0 : 0 ≤ i
  h1 : i ≤ j
  h2 : j ≤ N
  hr : bsN p 0 N = bsN p i j
theorem nbd {s : Set} (h : Right s) {n : Int} (h0 : 0 ≤ n) (h1 : n ≤ 1000000) : 0 ≤ s.size * (n + 2) ∧ s.size * (n + 2) ≤ 1000002000000 := by
  have a := h.s1
  have b := h.s2
  refine ⟨Int.mul_nonneg (by omega) (by omega), ?_⟩
  have := Int.mul_le_mul b (show n + 2 ≤ 1000002 by omega) (by omega) (by omega)
  omega
set_option maxRecDepth 100000 in
set_option maxHeartbeats 4000000 in
theorem wait_vc (s : Set) (need : Int) (hp : wait_P s need) : FnOk Try.prog 19 [.agg (Dat.enc fun _ => s), .i .i64 fun _ => need] [] (outA (wait_R fun _ => waitV s need) []) := by
  refine fn_ok envOk zl cW4_ok noDraws_ok (keep := [0, 1, 2, 4, 5, 6, 10, 17]) Try.func19 rfl ?_
  have hp' : s.spans.length ≤ 9223372036854775807 := hp
  have fin : ∀ a' e H kl, (a', e) = waitV s need → outA (wait_R fun _ => waitV s need) [] (.tup [.i .i64 fun _ => a', .i .i64 fun _ => e]) H kl := by
    intro a' e H kl h
    cbv
    repeat' first | (refine Stp.mk ?_; cbv) | (refine Gen.mk fun r hr => ?_; (try simp only [Dat.ok, Dat.dec, Leaf.ok, Leaf.val, Span.eta, Set.eta, val_sl, val_nil] at hr); cbv) | exact trivial | rfl | refine Both.mk ?_ ?_ | (refine Imp.mk fun h => ?_; (try dsimp only at h); (try simp only [nc, Int.toNat_natCast, Bool.not_eq_true', Bool.not_eq_false', decide_eq_true_eq, decide_eq_false_iff_not, beq_iff_eq, beq_eq_false_iff_ne, bne_iff_ne, ne_eq, Bool.and_eq_true, Bool.or_eq_true, Bool.and_eq_false_iff, Bool.or_eq_false_iff, Int.not_le, Int.not_lt, Nat.not_le, Nat.not_lt] at h); (try simp only [nc] at h)) | refine Ob.mk ?_ ?_ | refine Eq'.mk ?_ | (refine AllN.mk fun i hi => ?_; cbv)
    all_goals rw [← h]
  generalize outA (wait_R fun _ => waitV s need) [] = K at fin
  cbv
  repeat' first | (refine Stp.mk ?_; cbv) | (refine Gen.mk fun r hr => ?_; (try simp only [Dat.ok, Dat.dec, Leaf.ok, Leaf.val, Span.eta, Set.eta, val_sl, val_nil] at hr); cbv) | exact trivial | rfl | refine Both.mk ?_ ?_ | (refine Imp.mk fun h => ?_; (try dsimp only at h); (try simp only [nc, Int.toNat_natCast, Bool.not_eq_true', Bool.not_eq_false', decide_eq_true_eq, decide_eq_false_iff_not, beq_iff_eq, beq_eq_false_iff_ne, bne_iff_ne, ne_eq, Bool.and_eq_true, Bool.or_eq_true, Bool.and_eq_false_iff, Bool.or_eq_false_iff, Int.not_le, Int.not_lt, Nat.not_le, Nat.not_lt] at h); (try simp only [nc] at h)) | refine Ob.mk ?_ ?_ | refine Eq'.mk ?_ | (refine AllN.mk fun i hi => ?_; cbv)
  all_goals ((try dsimp only at *); (try simp only [nc, Int.toNat_natCast, Bool.not_eq_true', Bool.not_eq_false', decide_eq_true_eq, decide_eq_false_iff_not, beq_iff_eq, beq_eq_false_iff_ne, bne_iff_ne, ne_eq, Bool.and_eq_true, Bool.or_eq_true, Bool.and_eq_false_iff, Bool.or_eq_false_iff, Int.not_le, Int.not_lt, Nat.not_le, Nat.not_lt] at *); (try simp only [nc] at *))
  all_goals try simp only [Dat.ok, Dat.dec, Leaf.ok, Leaf.val, Span.eta, Set.eta, val_sl] at *
  all_goals try have hR := check_iff.1 (show checkV s = 0 by assumption)
  all_goals try have hN := nbd hR (show 0 ≤ need by omega) (show need ≤ 1000000 by omega)
  all_goals first
    | exact ⟨⟨trivial, rfl, fun i _ => Dat.hok _⟩, hp'⟩
    | (unfold InR; omega)
    | (refine fin _ _ _ _ ?_
       unfold waitV fewV
       first
         | (rw [if_neg (by assumption)]; done)
         | (rw [if_pos (by assumption), if_pos (by omega)]; done)
         | (rw [if_pos (by assumption), if_neg (by omega), if_pos (by omega)]; done)
         | (rw [if_pos (by assumption), if_neg (by omega), if_neg (by omega), if_pos (by omega)]; done))
    | skip
  have eW : waitV s need = (bsN (fun n => decide (need ≤ leastV s n)) 0 (s.size * (need + 2)), 0) := by
    unfold waitV fewV
    rw [if_pos (by assumption), if_neg (by omega), if_neg (by omega), if_neg (by omega)]
  generalize hNN : s.size * (need + 2) = N at *
  refine LoopVC.frame [5, 6, 7, 11, 21] (BsX (fun n => decide (need ≤ leastV s n)) N) (fun x => [(5, .i .i64 fun _ => x.i), (6, .i .i64 fun _ => x.j)]) (fun _ => []) [] (fun x => (x.j - x.i).toNat) ⟨0, N, Int.le_refl _, by omega, Int.le_refl _, rfl⟩ rfl (fun _ => rfl) ?_ ?_ fun ⟨i, j, h0, h1, h2, hr⟩ => ?_
  · cbv
    repeat' first | (refine Stp.mk ?_; cbv) | (refine Gen.mk fun r hr => ?_; (try simp only [Dat.ok, Dat.dec, Leaf.ok, Leaf.val, Span.eta, Set.eta, val_sl, val_nil] at hr); cbv) | exact trivial | rfl | refine Both.mk ?_ ?_ | (refine Imp.mk fun h => ?_; (try dsimp only at h); (try simp only [nc, Int.toNat_natCast, Bool.not_eq_true', Bool.not_eq_false', decide_eq_true_eq, decide_eq_false_iff_not, beq_iff_eq, beq_eq_false_iff_ne, bne_iff_ne, ne_eq, Bool.and_eq_true, Bool.or_eq_true, Bool.and_eq_false_iff, Bool.or_eq_false_iff, Int.not_le, Int.not_lt, Nat.not_le, Nat.not_lt] at h); (try simp only [nc] at h)) | refine Ob.mk ?_ ?_ | refine Eq'.mk ?_ | (refine AllN.mk fun i hi => ?_; cbv)
  · cbv
    repeat' first | (refine Stp.mk ?_; cbv) | (refine Gen.mk fun r hr => ?_; (try simp only [Dat.ok, Dat.dec, Leaf.ok, Leaf.val, Span.eta, Set.eta, val_sl, val_nil] at hr); cbv) | exact trivial | rfl | refine Both.mk ?_ ?_ | (refine Imp.mk fun h => ?_; (try dsimp only at h); (try simp only [nc, Int.toNat_natCast, Bool.not_eq_true', Bool.not_eq_false', decide_eq_true_eq, decide_eq_false_iff_not, beq_iff_eq, beq_eq_false_iff_ne, bne_iff_ne, ne_eq, Bool.and_eq_true, Bool.or_eq_true, Bool.and_eq_false_iff, Bool.or_eq_false_iff, Int.not_le, Int.not_lt, Nat.not_le, Nat.not_lt] at h); (try simp only [nc] at h)) | refine Ob.mk ?_ ?_ | refine Eq'.mk ?_ | (refine AllN.mk fun i hi => ?_; cbv)
  have hme := mid_eq h0 h1 (by omega)
  cbv
  repeat' first | (refine Stp.mk ?_; cbv) | (refine Gen.mk fun r hr => ?_; (try simp only [Dat.ok, Dat.dec, Leaf.ok, Leaf.val, Span.eta, Set.eta, val_sl, val_nil] at hr); cbv) | exact trivial | rfl | refine Both.mk ?_ ?_ | (refine Imp.mk fun h => ?_; (try dsimp only at h); (try simp only [nc, Int.toNat_natCast, Bool.not_eq_true', Bool.not_eq_false', decide_eq_true_eq, decide_eq_false_iff_not, beq_iff_eq, beq_eq_false_iff_ne, bne_iff_ne, ne_eq, Bool.and_eq_true, Bool.or_eq_true, Bool.and_eq_false_iff, Bool.or_eq_false_iff, Int.not_le, Int.not_lt, Nat.not_le, Nat.not_lt] at h); (try simp only [nc] at h)) | refine Ob.mk ?_ ?_ | refine Eq'.mk ?_ | (refine AllN.mk fun i hi => ?_; cbv)
  all_goals ((try dsimp only at *); (try simp only [nc, Int.toNat_natCast, Bool.not_eq_true', Bool.not_eq_false', decide_eq_true_eq, decide_eq_false_iff_not, beq_iff_eq, beq_eq_false_iff_ne, bne_iff_ne, ne_eq, Bool.and_eq_true, Bool.or_eq_true, Bool.and_eq_false_iff, Bool.or_eq_false_iff, Int.not_le, Int.not_lt, Nat.not_le, Nat.not_lt] at *); (try simp only [nc] at *))
  all_goals try simp only [Dat.ok, Dat.dec, Leaf.ok, Leaf.val, Span.eta, Set.eta, val_sl] at *
  all_goals try rw [hme] at *
  all_goals try have hlt : i < j := by assumption
  all_goals try rw [bsN_lt hlt] at hr
  all_goals first
    | omega
    | (unfold InR; omega)
    | exact ⟨⟨trivial, rfl, fun i _ => Dat.hok _⟩, hR, by omega, by omega⟩
    | (refine fin _ _ _ _ ?_
       rw [eW, hr, bsN_ge (by omega)])
    | (refine ⟨⟨(i + j) / 2 + 1, j, by omega, by omega, h2, ?_⟩, ?_, ?_, rfl, by (try dsimp only); omega⟩
       · rw [hr, if_neg (by simp; omega)]
       · cbv
         repeat' first | (refine Stp.mk ?_; cbv) | (refine Gen.mk fun r hr => ?_; (try simp only [Dat.ok, Dat.dec, Leaf.ok, Leaf.val, Span.eta, Set.eta, val_sl, val_nil] at hr); cbv) | exact trivial | rfl | refine Both.mk ?_ ?_ | (refine Imp.mk fun h => ?_; (try dsimp only at h); (try simp only [nc, Int.toNat_natCast, Bool.not_eq_true', Bool.not_eq_false', decide_eq_true_eq, decide_eq_false_iff_not, beq_iff_eq, beq_eq_false_iff_ne, bne_iff_ne, ne_eq, Bool.and_eq_true, Bool.or_eq_true, Bool.and_eq_false_iff, Bool.or_eq_false_iff, Int.not_le, Int.not_lt, Nat.not_le, Nat.not_lt] at h); (try simp only [nc] at h)) | refine Ob.mk ?_ ?_ | refine Eq'.mk ?_ | (refine AllN.mk fun i hi => ?_; cbv)
         all_goals (first | rfl | (dsimp only; rw [hme]))
       · cbv
         repeat' first | (refine Stp.mk ?_; cbv) | (refine Gen.mk fun r hr => ?_; (try simp only [Dat.ok, Dat.dec, Leaf.ok, Leaf.val, Span.eta, Set.eta, val_sl, val_nil] at hr); cbv) | exact trivial | rfl | refine Both.mk ?_ ?_ | (refine Imp.mk fun h => ?_; (try dsimp only at h); (try simp only [nc, Int.toNat_natCast, Bool.not_eq_true', Bool.not_eq_false', decide_eq_true_eq, decide_eq_false_iff_not, beq_iff_eq, beq_eq_false_iff_ne, bne_iff_ne, ne_eq, Bool.and_eq_true, Bool.or_eq_true, Bool.and_eq_false_iff, Bool.or_eq_false_iff, Int.not_le, Int.not_lt, Nat.not_le, Nat.not_lt] at h); (try simp only [nc] at h)) | refine Ob.mk ?_ ?_ | refine Eq'.mk ?_ | (refine AllN.mk fun i hi => ?_; cbv))
    | (refine ⟨⟨i, (i + j) / 2, h0, by omega, by omega, ?_⟩, ?_, ?_, rfl, by (try dsimp only); omega⟩
       · rw [hr, if_pos (by simp; omega)]
       · cbv
         repeat' first | (refine Stp.mk ?_; cbv) | (refine Gen.mk fun r hr => ?_; (try simp only [Dat.ok, Dat.dec, Leaf.ok, Leaf.val, Span.eta, Set.eta, val_sl, val_nil] at hr); cbv) | exact trivial | rfl | refine Both.mk ?_ ?_ | (refine Imp.mk fun h => ?_; (try dsimp only at h); (try simp only [nc, Int.toNat_natCast, Bool.not_eq_true', Bool.not_eq_false', decide_eq_true_eq, decide_eq_false_iff_not, beq_iff_eq, beq_eq_false_iff_ne, bne_iff_ne, ne_eq, Bool.and_eq_true, Bool.or_eq_true, Bool.and_eq_false_iff, Bool.or_eq_false_iff, Int.not_le, Int.not_lt, Nat.not_le, Nat.not_lt] at h); (try simp only [nc] at h)) | refine Ob.mk ?_ ?_ | refine Eq'.mk ?_ | (refine AllN.mk fun i hi => ?_; cbv)
         all_goals (first | rfl | (dsimp only; rw [hme]))
       · cbv
         repeat' first | (refine Stp.mk ?_; cbv) | (refine Gen.mk fun r hr => ?_; (try simp only [Dat.ok, Dat.dec, Leaf.ok, Leaf.val, Span.eta, Set.eta, val_sl, val_nil] at hr); cbv) | exact trivial | rfl | refine Both.mk ?_ ?_ | (refine Imp.mk fun h => ?_; (try dsimp only at h); (try simp only [nc, Int.toNat_natCast, Bool.not_eq_true', Bool.not_eq_false', decide_eq_true_eq, decide_eq_false_iff_not, beq_iff_eq, beq_eq_false_iff_ne, bne_iff_ne, ne_eq, Bool.and_eq_true, Bool.or_eq_true, Bool.and_eq_false_iff, Bool.or_eq_false_iff, Int.not_le, Int.not_lt, Nat.not_le, Nat.not_lt] at h); (try simp only [nc] at h)) | refine Ob.mk ?_ ?_ | refine Eq'.mk ?_ | (refine AllN.mk fun i hi => ?_; cbv))
    | fail
theorem wait_ok : PcOk Try.prog 19 (detPC wait_D) := det_okA fun A p r h hp0 => by
  unfold wait_D at h
  split at h
  · rename_i s need
    cases h
    obtain ⟨g0, hp⟩ := hp0
    exact ⟨rfl, FnOk.pre (A' := [.agg (Dat.enc fun _ => (Dat.dec s : Set)), .i .i64 fun _ => need ()]) (wait_vc (Dat.dec s) (need ()) hp) (.mk (Dat.hle _ g0) (.mk (.mk (.mk rfl) (.mk rfl)) (trivial)))⟩
  · cases h
noncomputable def conL : FuncId → Con := fun f => match f with
  | 15 => pureCon (detPC leastP_D)
  | 16 => pureCon (detPC mostP_D)
  | 19 => pureCon (detPC wait_D)
  | _ => fun _ _ _ => Bad 1001
theorem conL_ok : ConOk Try.prog conL := fun f A H K h => by
  unfold conL at h
  split at h
  · exact ⟨⟨Try.f15, Try.func15, by kernel_rfl, by kernel_rfl⟩, pureCon_ok leastP_ok h⟩
  · exact ⟨⟨Try.f16, Try.func16, by kernel_rfl, by kernel_rfl⟩, pureCon_ok mostP_ok h⟩
  · exact ⟨⟨Try.f19, Try.func19, by kernel_rfl, by kernel_rfl⟩, pureCon_ok wait_ok h⟩
  · cases h
def lives_R (r : Th (Bool)) : AV := .bc true
def lives_D : Det := fun A => match A with
  | [] => some (fun _ => True, lives_R fun _ => true )
  | _ => none
set_option maxRecDepth 100000 in
set_option maxHeartbeats 4000000 in
theorem lives_vc  : FnOk Try.prog 17 [] [] (outA (lives_R fun _ => true ) []) := by
  refine fn_ok envOk zl conL_ok noDraws_ok (keep := [0, 1, 2, 3, 4, 5, 6, 7]) Try.func17 rfl ?_
  cbv
  repeat' first | (refine Stp.mk ?_; cbv) | (refine Gen.mk fun r hr => ?_; (try simp only [Dat.ok, Dat.dec, Leaf.ok, Leaf.val, Span.eta, Set.eta, val_sl, val_nil] at hr); cbv) | exact trivial | rfl | refine Both.mk ?_ ?_ | (refine Imp.mk fun h => ?_; (try dsimp only at h); (try simp only [nc, Int.toNat_natCast, Bool.not_eq_true', Bool.not_eq_false', decide_eq_true_eq, decide_eq_false_iff_not, beq_iff_eq, beq_eq_false_iff_ne, bne_iff_ne, ne_eq, Bool.and_eq_true, Bool.or_eq_true, Bool.and_eq_false_iff, Bool.or_eq_false_iff, Int.not_le, Int.not_lt, Nat.not_le, Nat.not_lt] at h); (try simp only [nc] at h)) | refine Ob.mk ?_ ?_ | refine Eq'.mk ?_ | (refine AllN.mk fun i hi => ?_; cbv)
  all_goals first
    | (refine ⟨⟨trivial, rfl, fun i _ => ⟨trivial, trivial⟩⟩, ?_⟩; show _ ≤ _; decide)
    | skip
  all_goals first
    | exact Nat.le_refl _
    | (subst_vars; refine ⟨rfl, fun i hi => ?_⟩; rcases i with _ | _ | _ | _ | _ | _ | _ | _ | i <;> first | trivial | exact ⟨trivial, trivial⟩ | exact ⟨trivial, trivial, trivial⟩ | exact ⟨trivial, trivial, trivial, trivial⟩ | exact ⟨trivial, trivial, trivial, trivial, trivial⟩ | (exfalso; (try simp only [] at hi); omega))
    | (refine ⟨?_, ⟨rfl, fun i hi => ?_⟩, ?_⟩
       · first | trivial | (refine ⟨rfl, fun i hi => ?_⟩; first | exact Dat.hok _ | exact ok_row rfl (Dat.hok _) (Dat.hok _) | exact ok_row rfl (Dat.hok _) (by simp only [Dat.ok, Dat.dec, Leaf.ok, Leaf.val, Span.eta, Set.eta, and_self]) | (simp only [Dat.ok, Dat.dec, Leaf.ok, Leaf.val, Span.eta, Set.eta, and_self]; done) | (revert i; decide)) | (simp only [Dat.ok, Dat.dec, Leaf.ok, Leaf.val, Span.eta, Set.eta, and_self]; done)
       · rcases i with _ | _ | _ | _ | _ | _ | _ | _ | i <;> first | trivial | exact ⟨trivial, trivial⟩ | exact ⟨trivial, trivial, trivial⟩ | exact ⟨trivial, trivial, trivial, trivial⟩ | exact ⟨trivial, trivial, trivial, trivial, trivial⟩ | (exfalso; (try simp only [] at hi); omega)
       · subst_vars; (try (show _ ≤ _)); decide)
    | (refine ⟨?_, ⟨rfl, fun i hi => ?_⟩⟩
       · first | trivial | (refine ⟨rfl, fun i hi => ?_⟩; first | exact Dat.hok _ | exact ok_row rfl (Dat.hok _) (Dat.hok _) | exact ok_row rfl (Dat.hok _) (by simp only [Dat.ok, Dat.dec, Leaf.ok, Leaf.val, Span.eta, Set.eta, and_self]) | (simp only [Dat.ok, Dat.dec, Leaf.ok, Leaf.val, Span.eta, Set.eta, and_self]; done) | (revert i; decide)) | (simp only [Dat.ok, Dat.dec, Leaf.ok, Leaf.val, Span.eta, Set.eta, and_self]; done)
       · rcases i with _ | _ | _ | _ | _ | _ | _ | _ | i <;> first | trivial | exact ⟨trivial, trivial⟩ | exact ⟨trivial, trivial, trivial⟩ | exact ⟨trivial, trivial, trivial, trivial⟩ | exact ⟨trivial, trivial, trivial, trivial, trivial⟩ | (exfalso; (try simp only [] at hi); omega))
    | (first | trivial | (refine ⟨rfl, fun i hi => ?_⟩; first | exact Dat.hok _ | exact ok_row rfl (Dat.hok _) (Dat.hok _) | exact ok_row rfl (Dat.hok _) (by simp only [Dat.ok, Dat.dec, Leaf.ok, Leaf.val, Span.eta, Set.eta, and_self]) | (simp only [Dat.ok, Dat.dec, Leaf.ok, Leaf.val, Span.eta, Set.eta, and_self]; done) | (revert i; decide)) | (simp only [Dat.ok, Dat.dec, Leaf.ok, Leaf.val, Span.eta, Set.eta, and_self]; done))
    | (subst_vars; decide)
    | (exfalso; subst_vars; revert h; decide)
    | (exfalso; rename_i h'; subst_vars; revert h'; decide)
    | (exfalso; rename_i h' _; subst_vars; revert h'; decide)
    | fail
theorem lives_ok : PcOk Try.prog 17 (detPC lives_D) := det_okA fun A p r h hp0 => by
  unfold lives_D at h
  split at h
  · cases h
    exact ⟨rfl, FnOk.pre (A' := []) (lives_vc ) (trivial)⟩
  · cases h

end Go.Proofs.Ytmicojghbhhblaa
