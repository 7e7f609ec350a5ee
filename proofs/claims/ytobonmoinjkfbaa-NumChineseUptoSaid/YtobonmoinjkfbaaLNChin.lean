/- Sun Zi: what is told leaves what was asked for by both. -/
import Derived.Test.YtobonmoinjkfbaaNumR
set_option linter.all false
namespace Go.Proofs.Ytobonmoinjkfbaa
open Go Go.Abs

def clip (m : Int) : Int := if 0 < if 1099511627776 < m then 1099511627776 else m then if 1099511627776 < m then 1099511627776 else m else 0
theorem clip_bd (m : Int) : 0 ≤ clip m ∧ clip m ≤ 1099511627776 := by
  unfold clip; repeat' split
  all_goals omega
theorem clip_id {m : Int} (h : 1 ≤ m) (h2 : m ≤ 1000000) : clip m = m := by
  unfold clip; repeat' split
  all_goals omega
theorem clipG (m n : Int) : (GcdV (clip m) (clip n)).2 = 0 := by
  rw [G_eq (clip_bd m).1 (clip_bd m).2 (clip_bd n).1 (clip_bd n).2]
theorem clip_eq {a m b n : Int} (h : MeetP a m b n) : GcdV (clip m) (clip n) = (gcdV m n, 0) := by
  obtain ⟨p1, p2, p3, p4, -⟩ := h
  rw [clip_id p1 p2, clip_id p3 p4, G_eq (by omega) (by omega) (by omega) (by omega)]
theorem meet_P {a m b n : Int} (h : ¬ (meetV a m b n).2 = 1) : MeetP a m b n := by
  rcases Decidable.em (MeetP a m b n) with h1 | h1
  · exact h1
  · exact absurd (by rw [meetV, if_neg h1]) h
theorem meet_no {a m b n : Int} (h : (meetV a m b n).2 = 1) : (meetV a m b n).1 = 0 := by
  unfold meetV at h ⊢
  split at h
  · split at h <;> cases h
  · rename_i h1; rw [if_neg h1]
structure MeetF (a m b n g t e L : Int) : Prop where
  g1 : 1 ≤ g
  L1 : 1 ≤ L
  L2 : L ≤ 1000000000000
  m1 : 1 ≤ m
  n1 : 1 ≤ n
  mg : 0 ≤ m.tdiv g
  mg2 : m.tdiv g ≤ 1000000
  yes : a.tmod g = b.tmod g → e = 0 ∧ 0 ≤ t ∧ t < L ∧ t.tmod m = a ∧ t.tmod n = b
  no : ¬ a.tmod g = b.tmod g → e = 7
  non : ∀ o, 0 ≤ o → o.tmod m = a → o.tmod n = b → a.tmod g = b.tmod g ∧ (o - t).tmod L = 0 ∧ t ≤ o
theorem tm_eq {a b g : Int} (ha : 0 ≤ a) (hb : 0 ≤ b) : a.tmod g = b.tmod g ↔ g ∣ b - a := by
  rw [Int.tmod_eq_emod_of_nonneg ha, Int.tmod_eq_emod_of_nonneg hb]
  constructor
  · intro h
    have h1 : g ∣ a - a % g := Int.dvd_self_sub_emod
    have h2 : g ∣ b - b % g := Int.dvd_self_sub_emod
    have := Int.dvd_sub h2 h1
    rwa [show b - b % g - (a - a % g) = b - a by omega] at this
  · intro h
    exact (Int.emod_eq_emod_iff_emod_sub_eq_zero.2 (Int.emod_eq_zero_of_dvd (by have := Int.dvd_neg.2 h; rwa [show -(b - a) = a - b by omega] at this)))
theorem meetF {a m b n : Int} (hM : MeetP a m b n) : MeetF a m b n (gcdV m n) (meetV a m b n).1 (meetV a m b n).2 (m.tdiv (gcdV m n) * n) := by
  obtain ⟨p1, p2, p3, p4, p5, p6, p7, p8⟩ := id hM
  have hg := gcd_facts p1 p3
  have hx := x_facts (a := m) (b := n) p1 (by omega) p3 (by omega)
  have em : m.tdiv (gcdV m n) = m / gcdV m n := Int.tdiv_eq_ediv_of_nonneg (by omega)
  have e1 : gcdV m n * (m / gcdV m n) = m := Int.mul_ediv_cancel' hg.2.2.2.1
  have eL : m.tdiv (gcdV m n) * n = m * (n / gcdV m n) := by
    rw [em]
    have hx4 := hx.2.2.2.1
    clear hx hg em
    generalize m / gcdV m n = w at *
    generalize n / gcdV m n = v at *
    generalize gcdV m n = g at *
    grind
  have hmg : m / gcdV m n ≤ m := Int.ediv_le_self _ (by omega)
  have hmg1 : 1 ≤ m / gcdV m n := (Int.le_ediv_iff_mul_le (by omega)).2 (by omega)
  have hs := small_mul (x := m) (y := n / gcdV m n) (by omega) p2 (by omega) (by omega)
  have hL1 : 1 * 1 ≤ m * (n / gcdV m n) := Int.mul_le_mul p1 hx.2.1 (by decide) (by omega)
  have hte := tm_eq (a := a) (b := b) (g := gcdV m n) p5 p7
  have hyes : gcdV m n ∣ b - a → (meetV a m b n) = (a + m * meetK a m b n, 0) := fun h => by rw [meetV, if_pos hM, if_neg (by simpa using h)]
  have hno : ¬ gcdV m n ∣ b - a → (meetV a m b n) = (0, 7) := fun h => by rw [meetV, if_pos hM, if_pos h]
  have hk0 : 0 ≤ meetK a m b n := Int.emod_nonneg _ (by omega)
  have hk1 : meetK a m b n < n / gcdV m n := Int.emod_lt_of_pos _ (by omega)
  have hmk := small_mul (x := m) (y := meetK a m b n) (by omega) p2 hk0 (by omega)
  have hlt : m * (meetK a m b n + 1) ≤ m * (n / gcdV m n) := Int.mul_le_mul_of_nonneg_left (by omega) (by omega)
  rw [Int.mul_add, Int.mul_one] at hlt
  have hY : gcdV m n ∣ b - a → 0 ≤ (a + m * meetK a m b n) ∧ (a + m * meetK a m b n) < m * (n / gcdV m n) ∧ (a + m * meetK a m b n).tmod m = a ∧ (a + m * meetK a m b n).tmod n = b := fun hd => by
    refine ⟨by omega, by omega, ?_, ?_⟩
    · rw [Int.tmod_eq_emod_of_nonneg (by omega), Int.add_mul_emod_self_left, Int.emod_eq_of_lt p5 (by omega)]
    · have key : n ∣ b - (a + m * meetK a m b n) := by
        unfold meetK
        obtain ⟨q, hq⟩ := hd
        rw [hq, Int.mul_ediv_cancel_left _ (by omega)]
        obtain ⟨u, hu⟩ := hx.2.2.2.2.2.2
        have en := hx.2.2.2.1
        have f1 := Int.emod_add_mul_ediv q (n / gcdV m n)
        have f2 := Int.emod_add_mul_ediv (xOf m n) (n / gcdV m n)
        have f3 := Int.emod_add_mul_ediv (q % (n / gcdV m n) * (xOf m n % (n / gcdV m n))) (n / gcdV m n)
        have en2 : gcdV m n * (m / gcdV m n) = m := e1
        generalize q % (n / gcdV m n) * (xOf m n % (n / gcdV m n)) % (n / gcdV m n) = K at *
        generalize q % (n / gcdV m n) * (xOf m n % (n / gcdV m n)) / (n / gcdV m n) = j at *
        generalize q % (n / gcdV m n) = q1 at *
        generalize xOf m n % (n / gcdV m n) = x1 at *
        generalize q / (n / gcdV m n) = q2 at *
        generalize xOf m n / (n / gcdV m n) = x2 at *
        generalize n / gcdV m n = v at *
        generalize m / gcdV m n = w at *
        generalize gcdV m n = g at *
        generalize xOf m n = x at *
        refine ⟨-(q * u) + w * (q2 * x + q1 * x2 + j), ?_⟩
        grind
      have h3 := (tm_eq (a := a + m * meetK a m b n) (b := b) (g := n) (by omega) p7).2 key
      rw [h3, Int.tmod_eq_emod_of_nonneg p7, Int.emod_eq_of_lt p7 (by omega)]
  refine ⟨hg.1, by omega, by omega, p1, p3, by omega, by omega, fun h => ?_, fun h => ?_, fun o ho h1 h2 => ?_⟩
  · have hd := hte.1 h
    rw [hyes hd, eL]
    exact ⟨rfl, hY hd⟩
  · rw [hno (fun q => h (hte.2 q))]
  · have am : a.tmod m = a := by rw [Int.tmod_eq_emod_of_nonneg p5, Int.emod_eq_of_lt p5 (by omega)]
    have bn : b.tmod n = b := by rw [Int.tmod_eq_emod_of_nonneg p7, Int.emod_eq_of_lt p7 (by omega)]
    have d1 : m ∣ a - o := (tm_eq ho p5).1 (by rw [am]; exact h1)
    have d2 : n ∣ b - o := (tm_eq ho p7).1 (by rw [bn]; exact h2)
    have hd : gcdV m n ∣ b - a := by
      have := Int.dvd_sub (Int.dvd_trans hg.2.2.2.2 d2) (Int.dvd_trans hg.2.2.2.1 d1)
      rwa [show b - o - (a - o) = b - a by omega] at this
    refine ⟨hte.2 hd, ?_⟩
    rw [hyes hd, eL]
    have hy := hY hd
    show (o - (a + m * meetK a m b n)).tmod _ = 0 ∧ a + m * meetK a m b n ≤ o
    generalize a + m * meetK a m b n = t at *
    have c1 : m ∣ t - o := (tm_eq ho (by omega)).1 (by rw [h1, hy.2.2.1])
    have c2 : n ∣ t - o := (tm_eq ho (by omega)).1 (by rw [h2, hy.2.2.2])
    have c3 : m * (n / gcdV m n) ∣ t - o := by
      obtain ⟨u, hu⟩ := c1
      rw [hu, Int.mul_comm m u] at c2
      have := cop p1 p3 c2
      rw [hu]
      exact Int.mul_dvd_mul (Int.dvd_refl m) this
    refine ⟨tm.2 ?_, ?_⟩
    · have := Int.dvd_neg.2 c3
      rwa [show -(t - o) = o - t by omega] at this
    · rcases Int.lt_or_le o t with h5 | h5
      · have := Int.le_of_dvd (by omega) c3
        omega
      · exact h5
noncomputable def cNC : FuncId → Con := fun f => match f with
  | 16 => pureCon (detPC meetN_D)
  | 13 => pureCon (detPC GcdN_D)
  | 14 => pureCon (detPC nlives_D)
  | _ => fun _ _ _ => Bad 1001
theorem cNC_ok : ConOk Try.prog cNC := fun f A H K h => by
  unfold cNC at h
  split at h
  · exact ⟨⟨Try.f16, Try.func16, by kernel_rfl, by kernel_rfl⟩, pureCon_ok meetN_ok h⟩
  · exact ⟨⟨Try.f13, Try.func13, by kernel_rfl, by kernel_rfl⟩, pureCon_ok GcdN_ok h⟩
  · exact ⟨⟨Try.f14, Try.func14, by kernel_rfl, by kernel_rfl⟩, pureCon_ok nlives_ok h⟩
  · cases h
def dNC : FuncId → Option Dt := fun f => match f with
  | 16 => some (.c meetN_D)
  | 13 => some (.c GcdN_D)
  | _ => none
theorem dNC_ok : DetOk Try.prog dNC := fun f d h => by
  unfold dNC at h
  split at h
  · cases h; exact ⟨⟨Try.f16, Try.func16, by kernel_rfl, by kernel_rfl⟩, meetN_ok⟩
  · cases h; exact ⟨⟨Try.f13, Try.func13, by kernel_rfl, by kernel_rfl⟩, GcdN_ok⟩
  · cases h
set_option maxRecDepth 100000 in
set_option maxHeartbeats 4000000 in
theorem nchi_vc (a : Int) (m : Int) (b : Int) (n : Int) (other : Int) (fit_a : Siz.fit a) (fit_m : Siz.fit m) (fit_b : Siz.fit b) (fit_n : Siz.fit n) (fit_other : Siz.fit other) (hB : Siz.bulk a + Siz.bulk m + Siz.bulk b + Siz.bulk n + Siz.bulk other ≤ 1048576) : FnOk Try.prog 5 [.i .i64 fun _ => a, .i .i64 fun _ => m, .i .i64 fun _ => b, .i .i64 fun _ => n, .i .i64 fun _ => other] [] (outA (.bc true) []) := by
  refine fn_ok envOk zl cNC_ok (draws_ok envOk zl dNC_ok mixed) (keep := [0, 1, 2, 3, 4, 10, 11, 12, 13, 14, 42, 61, 63, 108]) Try.func5 rfl ?_
  have fin := @fin_b
  have finc := @fin_t
  generalize outA (.bc true) [] = K at fin finc
  cbv
  repeat' first | (show Stp _; exfalso; first | omega | (exact h ‹_›) | (exact absurd ‹_› h) | (exact Bool.false_ne_true (h.symm.trans (show _ = true by assumption)))) | (refine Stp.mk ?_; cbv) | (refine Gen.mk fun r hr => ?_; (try simp only [Dat.ok, Dat.dec, Leaf.ok, Leaf.val, Act.eta, Work.eta, Locked.eta, val_sl, val_nil] at hr); cbv) | exact trivial | rfl | refine Both.mk ?_ ?_ | (refine Imp.mk fun h => ?_; (try dsimp only at h); (try simp only [nc, Int.toNat_natCast, Bool.not_eq_true', Bool.not_eq_false', decide_eq_true_eq, decide_eq_false_iff_not, beq_iff_eq, beq_eq_false_iff_ne, ba_inj, bne_iff_ne, ne_eq, Bool.and_eq_true, Bool.or_eq_true, Bool.and_eq_false_iff, Bool.or_eq_false_iff, Int.not_le, Int.not_lt, Nat.not_le, Nat.not_lt] at h); (try simp only [nc] at h)) | refine Ob.mk ?_ ?_ | refine Chk.mk (by kernel_rfl) ?_ | refine Eq'.mk ?_ | (refine AllN.mk fun i hi => ?_; cbv) | (refine AllS.mk fun r hr => ?_; (try simp only [Dat.ok, Dat.dec, Leaf.ok, Leaf.val, Act.eta, Work.eta, Locked.eta, val_sl] at hr); cbv)
  all_goals ((try dsimp only at *); (try simp only [nc, Int.toNat_natCast, Bool.not_eq_true', Bool.not_eq_false', decide_eq_true_eq, decide_eq_false_iff_not, beq_iff_eq, beq_eq_false_iff_ne, ba_inj, bne_iff_ne, ne_eq, Bool.and_eq_true, Bool.or_eq_true, Bool.and_eq_false_iff, Bool.or_eq_false_iff, Int.not_le, Int.not_lt, Nat.not_le, Nat.not_lt] at *); (try simp only [nc] at *))
  all_goals simp only [Siz.bulk] at hB
  all_goals have hcg := clipG m n
  all_goals unfold clip at hcg
  all_goals first
    | exact absurd hcg (by assumption)
    | exact fin (by rw [meet_no (by assumption)]; rfl)
    | skip
  all_goals have hM := meet_P (a := a) (m := m) (b := b) (n := n) (by assumption)
  all_goals have hce := clip_eq hM
  all_goals unfold clip at hce
  all_goals have hF := meetF hM
  all_goals simp only [hce] at *
  all_goals obtain ⟨f1, f2, f3, f4, f5, f6, f7, f8, f9, f10⟩ := hF
  all_goals have fo : Siz.fit other := fit_other
  all_goals have fo1 := fo.1
  all_goals have fo2 := fo.2
  all_goals first
    | exact finc
    | omega
    | (unfold InR; omega)
    | (refine ⟨by omega, ?_⟩; unfold InR; omega)
    | (have q := f10 other (by assumption) (by assumption) (by assumption)
       first
         | (refine fin ?_; exact decide_eq_true q.2.2)
         | exact absurd q.2.1 (by assumption))
    | skip
  all_goals (
    rcases Decidable.em (a.tmod (gcdV m n) = b.tmod (gcdV m n)) with hq | hq
    · have hy := f8 hq
      first
        | (exfalso; omega)
        | (exfalso; apply h; rw [hy.1, hq]; simp; done)
        | (unfold InR; omega)
        | (exfalso; have := hy.2.2.2.1; have := hy.2.2.2.2; simp_all; done)
        | fail
    · have hy := f9 hq
      first
        | (exfalso; omega)
        | (exfalso; apply h; rw [hy]; simp [hq]; done)
        | (refine fin ?_
           have hn : ¬ other.tmod n = b := fun hb => hq (f10 other (by assumption) (by assumption) hb).1
           simpa using hn)
        | fail)
section
open Go.ChangeShapes Go.WideShapes Go.ChangeAt Go.RowKit Go.Joins Go.Deep
set_option linter.unusedVariables false
theorem nchi_own : ownKnob Try.prog.godebug = none := by kernel_rfl
theorem nchi_laidOut : laidOutB Try.prog = true := by kernel_rfl
theorem nchi_readOk {ts : Array TypeId} (h : ts.toList.all (fun t => Try.prog.readableRec t && decide (t < Try.prog.types.size)) = true) : ∀ t ∈ ts.toList, Try.prog.readableRec t = true ∧ t < Try.prog.types.size := fun t ht => by
  have := List.all_eq_true.1 h t ht
  simpa using this
mutual
theorem nchi_bD {H : Type} : ∀ d : DataW H, Rows.uptoBulk d = bulkD d
  | .lit l => by cases l <;> simp [Rows.uptoBulk, bulkD]
  | .nil => by simp [Rows.uptoBulk, bulkD]
  | .ptr d => by simp [Rows.uptoBulk, bulkD, nchi_bD d]
  | .slice a b => by simp [Rows.uptoBulk, bulkD, nchi_bL a, nchi_bL b]
  | .agg a => by simp [Rows.uptoBulk, bulkD, nchi_bL a]
  | .iface _ d => by simp [Rows.uptoBulk, bulkD, nchi_bD d]
  | .map e => by simp [Rows.uptoBulk, bulkD, nchi_bE e]
  | .held _ => by simp [Rows.uptoBulk, bulkD]
theorem nchi_bL {H : Type} : ∀ d : List (DataW H), Rows.uptoBulkAll d = bulkL d
  | [] => by simp [Rows.uptoBulkAll, bulkL]
  | d :: r => by simp [Rows.uptoBulkAll, bulkL, nchi_bD d, nchi_bL r]
theorem nchi_bE {H : Type} : ∀ d : List (Lit × DataW H), Rows.uptoBulkEntries d = bulkE d
  | [] => by simp [Rows.uptoBulkEntries, bulkE]
  | d :: r => by simp [Rows.uptoBulkEntries, bulkE, nchi_bX d, nchi_bE r]
theorem nchi_bX {H : Type} : ∀ d : Lit × DataW H, Rows.uptoBulkEntry d = bulkX d
  | (l, d) => by cases l <;> simp [Rows.uptoBulkEntry, bulkX, nchi_bD d]
end
set_option maxRecDepth 100000 in
theorem nchi_lifted (os : Os) (started : os.Started) (H : Type) (enc : TypeId × Value → H) (F : Stop.Interp) :
    ReturnsInHanded {} Try.checked os 5 .any ((Rows.OpenSpec.upto Rows.numChineseSpec).pre6 enc Try.prog Try.f5 Rows.numChineseUptoRow.domain false) (((Rows.OpenSpec.upto Rows.numChineseSpec).at F).post enc Try.prog Try.f5 false true false false) := by
  refine returnsInHanded_of_cond (C := Try.checked) (s := Rows.OpenSpec.upto Rows.numChineseSpec) (k := Rows.uptoSmall) rfl nchi_own started (by kernel_rfl) Try.func5
    (OpenSpec.witness (enc := enc) (C := Try.checked) (s := Rows.OpenSpec.upto Rows.numChineseSpec) (k := Rows.uptoSmall) rfl false ⟨#[], #[.int .i64 0, .int .i64 0, .int .i64 0, .int .i64 0, .int .i64 0], []⟩ 8 (by kernel_rfl) (by kernel_rfl) (by kernel_rfl)
      (x := ([.lit (.int .i64 0), .lit (.int .i64 0), .lit (.int .i64 0), .lit (.int .i64 0), .lit (.int .i64 0)], [], [])) (by kernel_rfl) rfl (by kernel_rfl)) ?_
  intro W base args ds gs before hval0 hW _ hk _
  show Calls Try.prog 5 args W fun e W' => ∃ v, e = .returned v ∧ Rows.numChineseSpec.post enc Try.prog Try.f5 false true false false W args v W'
  have hval : ∀ (j : Nat) t v, Try.f5.params[j]? = some t → args[j]? = some v → Value.okWide Try.prog W .any base t v := hval0
  have hW' := hW
  have hlt := hW.lt
  obtain ⟨p, q, hA0, hV, rfl, hfz, hnd⟩ := hW
  have hA : DataW.TrodAll enc Try.prog W 0 (fun _ => true) true Try.f5.params.toList args.toList ds p := hA0
  have hA1 := hA
  rw [Try.params5] at hA hval
  obtain ⟨v0, vs0, d0, ds0, p0, q0, hargs, rfl, rfl, h0, r0⟩ := trodAll_cons hA
  obtain ⟨v1, vs1, d1, ds1, p1, q1, rfl, rfl, rfl, h1, r1⟩ := trodAll_cons r0
  obtain ⟨v2, vs2, d2, ds2, p2, q2, rfl, rfl, rfl, h2, r2⟩ := trodAll_cons r1
  obtain ⟨v3, vs3, d3, ds3, p3, q3, rfl, rfl, rfl, h3, r3⟩ := trodAll_cons r2
  obtain ⟨v4, vs4, d4, ds4, p4, q4, rfl, rfl, rfl, h4, r4⟩ := trodAll_cons r3
  obtain ⟨rfl, rfl, rfl⟩ := trodAll_nil r4
  obtain rfl : args = #[v0, v1, v2, v3, v4] := by cases args; simp_all
  obtain ⟨rfl, rfl⟩ := trodVars_none hV
  obtain ⟨z0, rfl⟩ := okWide_int Try.underlying3 (hval 0 3 v0 rfl rfl)
  obtain ⟨y0, u0, b0, e0⟩ := arg_leaf (α := Int) (opn_int Try.underlying3) rfl h0
  obtain ⟨z1, rfl⟩ := okWide_int Try.underlying3 (hval 1 3 v1 rfl rfl)
  obtain ⟨y1, u1, b1, e1⟩ := arg_leaf (α := Int) (opn_int Try.underlying3) rfl h1
  obtain ⟨z2, rfl⟩ := okWide_int Try.underlying3 (hval 2 3 v2 rfl rfl)
  obtain ⟨y2, u2, b2, e2⟩ := arg_leaf (α := Int) (opn_int Try.underlying3) rfl h2
  obtain ⟨z3, rfl⟩ := okWide_int Try.underlying3 (hval 3 3 v3 rfl rfl)
  obtain ⟨y3, u3, b3, e3⟩ := arg_leaf (α := Int) (opn_int Try.underlying3) rfl h3
  obtain ⟨z4, rfl⟩ := okWide_int Try.underlying3 (hval 4 3 v4 rfl rfl)
  obtain ⟨y4, u4, b4, e4⟩ := arg_leaf (α := Int) (opn_int Try.underlying3) rfl h4
  have hB : Siz.bulk y0 + Siz.bulk y1 + Siz.bulk y2 + Siz.bulk y3 + Siz.bulk y4 ≤ 1048576 := by
    have h := of_decide_eq_true hk
    rw [nchi_bL] at h
    simp only [List.append_nil, bulkL] at h
    omega
  have hR := repL_cons (M := fun _ => False) (β := fun _ => none) (cp := fun _ => 0) (.c e0) (repL_cons (M := fun _ => False) (β := fun _ => none) (cp := fun _ => 0) (.c e1) (repL_cons (M := fun _ => False) (β := fun _ => none) (cp := fun _ => 0) (.c e2) (repL_cons (M := fun _ => False) (β := fun _ => none) (cp := fun _ => 0) (.c e3) (repL_cons (M := fun _ => False) (β := fun _ => none) (cp := fun _ => 0) (.c e4) (repL_nil)))))
  refine (law_callsA (nchi_vc y0 y1 y2 y3 y4 u0 u1 u2 u3 u4 hB) hR).mono fun e W' ⟨he, bel⟩ => ?_
  subst he
  exact ⟨_, rfl, _, _, _, [], _, [], hW', trodAll_mk1 (shut_bool Try.underlying4 _), trodAll_below nchi_laidOut bel (nchi_readOk (by kernel_rfl)) (fun x hx => hlt x (List.mem_append_left _ hx)) hA1, rfl, bel.frame _, fun h => by cases h⟩
theorem NumChinese_proved : Rows.NumChineseUptoSaid :=
  OpenClaim.holds_of_cond 5 Try.f5 rfl rfl rfl rfl rfl rfl rfl ⟨rfl, rfl, rfl, rfl, rfl⟩ rfl rfl rfl rfl rfl (by kernel_rfl) Try.func5 (by kernel_rfl)
    (of_decide_eq_true (by kernel_rfl)) (by unfold Func.isWrapper; first | (rw [if_pos (by decide +kernel)]; kernel_rfl) | (rw [if_neg (by decide +kernel)]; exact ⟨rfl, rfl⟩))
    (fun os started H enc _ F => nchi_lifted os started H enc F)
end

end Go.Proofs.Ytobonmoinjkfbaa
