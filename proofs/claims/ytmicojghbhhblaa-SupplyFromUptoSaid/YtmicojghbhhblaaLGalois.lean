/- The program's functions, walked: LGalois. -/
import Derived.Test.YtmicojghbhhblaaLEach
set_option linter.all false
namespace Go.Proofs.Ytmicojghbhhblaa
open Go Go.Abs
theorem win_split {s : Set} (h : Right s) {n t : Int} (hn : 0 ≤ n) (h0 : 0 ≤ t) : win s n t = n / s.size * long s.spans + win s (n % s.size) t := by
  obtain ⟨-, -, e3, e4, e5⟩ := divmod h hn
  have hq : 0 ≤ n / s.size := Int.ediv_nonneg hn (by have := h.s1; omega)
  obtain ⟨q, hqn⟩ : ∃ q : Nat, n / s.size = q := ⟨(n / s.size).toNat, by omega⟩
  have := upto_frames h (show 0 ≤ t + n % s.size by omega) q
  unfold win
  rw [← hqn] at this
  rw [show t + n = t + n % s.size + n / s.size * s.size by omega, this]
  omega
theorem leastV_spec {s : Set} (h : Right s) {n : Int} (hn : 0 ≤ n) : (∀ t, 0 ≤ t → leastV s n ≤ win s n t) ∧ ∃ t, 0 ≤ t ∧ leastV s n = win s n t := by
  obtain ⟨e1, e2, e3, e4, e5⟩ := divmod h hn
  have hs2 := h.s2
  obtain ⟨L, hL, hL2, t, ht0, ht1, ht2⟩ := least_spec h e3 (by omega)
  have e : leastV s n = n / s.size * long s.spans + L := by
    rw [leastV, e1, e2, hL, count0 h, uptoS h, upto0 h, Int.sub_zero]
  refine ⟨fun t ht => ?_, t, ht0, ?_⟩
  · rw [win_split h hn ht, e]
    have := hL2 t ht; omega
  · rw [win_split h hn ht0, e]; omega
theorem leastV_bound {s : Set} (h : Right s) {n : Int} (hn : 0 ≤ n) (hn2 : n ≤ 549755813888) : boundV s n false = (leastV s n, 0) := by
  obtain ⟨L, hL, hL2, t, ht0, ht1, ht2⟩ := least_spec h hn hn2
  obtain ⟨h1, u, hu, h2⟩ := leastV_spec h hn
  have := h1 t ht0
  have := hL2 u hu
  rw [hL]
  congr 1
  omega
theorem leastV_step {s : Set} (h : Right s) {n : Int} (hn : 0 ≤ n) : leastV s n ≤ leastV s (n + 1) ∧ leastV s (n + 1) ≤ leastV s n + 1 := by
  obtain ⟨a1, t, a2, a3⟩ := leastV_spec h hn
  obtain ⟨b1, u, b2, b3⟩ := leastV_spec h (show 0 ≤ n + 1 by omega)
  have h1 := a1 u b2
  have h2 := b1 t a2
  have e : ∀ t, 0 ≤ t → win s n t ≤ win s (n + 1) t ∧ win s (n + 1) t ≤ win s n t + 1 := fun t ht => by
    have := upto_step h (t := t + n) (by omega)
    unfold win; rw [show t + (n + 1) = t + n + 1 by omega]; omega
  have := e u b2
  have := e t a2
  omega
theorem leastV_mono {s : Set} (h : Right s) {a b : Int} (h0 : 0 ≤ a) (hab : a ≤ b) : leastV s a ≤ leastV s b := by
  have key : ∀ k : Nat, leastV s a ≤ leastV s (a + k) := by
    intro k
    induction k with
    | zero => simp
    | succ k ih =>
      have := (leastV_step h (n := a + k) (by omega)).1
      rw [Int.natCast_add, Int.natCast_one, ← Int.add_assoc]; omega
  have := key (b - a).toNat
  rwa [show a + ((b - a).toNat : Int) = b by omega] at this
theorem leastV_zero {s : Set} (h : Right s) : leastV s 0 = 0 := by
  obtain ⟨a1, t, a2, a3⟩ := leastV_spec h (Int.le_refl 0)
  rw [a3]; unfold win; rw [Int.add_zero]; omega
theorem long_pos {s : Set} (h : Right s) (hne : s.spans.length ≠ 0) : 1 ≤ long s.spans := by
  match hs : s.spans, hne with
  | x :: r, _ =>
    have b := (okSp_bd h.ok).2.2 x (by rw [hs]; simp)
    have : 0 ≤ long r := long_nn (size := s.size) (last := -1) fun y hy => (okSp_bd h.ok).2.2 y (by rw [hs]; simp [hy])
    rw [long]; omega
/-- What is waited at worst: the first for which there is enough. -/
theorem wait_spec {s : Set} (h : Right s) (hne : s.spans.length ≠ 0) {need : Int} (h0 : 0 < need) (h1 : need ≤ 1000000) :
    ∃ W, waitV s need = (W, 0) ∧ 0 < W ∧ W ≤ 1000002000000 ∧ need ≤ leastV s W ∧ ∀ m, 0 ≤ m → m < W → leastV s m < need := by
  have hN := nbd h (show 0 ≤ need by omega) h1
  have hs1 := h.s1
  have hlp := long_pos h hne
  have e : waitV s need = (bsN (fun n => decide (need ≤ leastV s n)) 0 (s.size * (need + 2)), 0) := by
    unfold waitV fewV
    rw [if_pos (check_iff.2 h), if_neg (by omega), if_neg (by omega), if_neg hne]
  generalize hNN : s.size * (need + 2) = N at *
  -- p, from 0 on alone, rises
  have hbs : bsN (fun n => decide (need ≤ leastV s n)) 0 N = bsN (fun n => decide (0 ≤ n ∧ need ≤ leastV s n)) 0 N := by
    have key : ∀ (f : Nat) (lo hi : Int), 0 ≤ lo → (hi - lo).toNat ≤ f → bsN (fun n => decide (need ≤ leastV s n)) lo hi = bsN (fun n => decide (0 ≤ n ∧ need ≤ leastV s n)) lo hi := by
      intro f
      induction f with
      | zero => intro lo hi _ hf; rw [bsN_ge (by omega), bsN_ge (by omega)]
      | succ f ih =>
        intro lo hi hlo hf
        by_cases hlt : lo < hi
        · rw [bsN_lt hlt, bsN_lt hlt, ih lo ((lo + hi) / 2) hlo (by omega), ih ((lo + hi) / 2 + 1) hi (by omega) (by omega)]
          have : 0 ≤ (lo + hi) / 2 := by omega
          simp [this]
        · rw [bsN_ge hlt, bsN_ge hlt]
    exact key _ 0 N (Int.le_refl _) (Nat.le_refl _)
  rw [hbs] at e
  obtain ⟨i1, i2, i3, i4⟩ := bsN_spec (p := fun n => decide (0 ≤ n ∧ need ≤ leastV s n)) (fun a b hab ha => by
    simp only [decide_eq_true_eq] at ha ⊢
    exact ⟨by omega, by have := leastV_mono h ha.1 hab; omega⟩) (N - 0).toNat 0 N (Nat.le_refl _) (by omega)
  generalize bsN (fun n => decide (0 ≤ n ∧ need ≤ leastV s n)) 0 N = W at *
  have hlast : need ≤ leastV s N := by
    obtain ⟨a1, t, a2, a3⟩ := leastV_spec h (show 0 ≤ N by omega)
    rw [a3, win_split h (by omega) a2, ← hNN, show s.size * (need + 2) = (need + 2) * s.size from Int.mul_comm _ _, Int.mul_ediv_cancel _ (by omega)]
    have hb := (win_bd h (Int.emod_nonneg ((need + 2) * s.size) (show s.size ≠ 0 by omega)) a2).1
    have : (need + 2) * 1 ≤ (need + 2) * long s.spans := Int.mul_le_mul_of_nonneg_left hlp (by omega)
    omega
  have hW : need ≤ leastV s W := by
    by_cases hlt : W < N
    · have := i4 hlt
      simp only [decide_eq_true_eq] at this
      exact this.2
    · rw [show W = N by omega]; exact hlast
  refine ⟨W, e, ?_, by omega, hW, fun m hm hmW => ?_⟩
  · by_cases hz : W = 0
    · rw [hz, leastV_zero h] at hW; omega
    · omega
  · have := i3 m hm hmW
    simp only [decide_eq_false_iff_not, not_and] at this
    have := this hm
    omega
theorem waitV_ok {s : Set} {need : Int} (h : (waitV s need).2 = 0) : Right s ∧ 0 ≤ need ∧ need ≤ 1000000 ∧ (need = 0 ∧ (waitV s need).1 = 0 ∨ s.spans.length ≠ 0) := by
  unfold waitV at *
  split at h
  · rename_i hc
    split at h
    · cases h
    · refine ⟨check_iff.1 hc, by omega, by omega, ?_⟩
      rw [if_pos hc, if_neg (by assumption)]
      unfold fewV at *
      split at h
      · rename_i h0; rw [if_pos h0]; exact .inl ⟨h0, rfl⟩
      · split at h
        · cases h
        · right; assumption
  · rename_i hc; exact absurd h hc
theorem waitV_err {s : Set} {need : Int} (h : ¬ (waitV s need).2 = 0) : (waitV s need).1 = 0 := by
  unfold waitV at *
  split
  · rename_i hc
    rw [if_pos hc] at h
    split
    · rfl
    · rename_i h1
      rw [if_neg h1] at h
      unfold fewV at *
      split
      · rfl
      · rename_i h2
        rw [if_neg h2] at h
        split
        · rfl
        · rename_i h3; rw [if_neg h3] at h; exact absurd rfl h
  · rfl
theorem galois {s : Set} {need n : Int} (h : (waitV s need).2 = 0) (hn : 0 ≤ n) : (need ≤ leastV s n ↔ (waitV s need).1 ≤ n) ∧ ((waitV s (need + 1)).2 = 0 → (waitV s need).1 < (waitV s (need + 1)).1) := by
  obtain ⟨hR, h0, h1, h2⟩ := waitV_ok h
  have hz := leastV_zero hR
  by_cases hne : need = 0
  · have hw : (waitV s need).1 = 0 := by
      rw [hne]; unfold waitV fewV; rw [if_pos (check_iff.2 hR), if_neg (by omega), if_pos rfl]
    have := leastV_mono hR (Int.le_refl 0) hn
    refine ⟨by rw [hw]; omega, fun h3 => ?_⟩
    obtain ⟨-, k1, k2, k3⟩ := waitV_ok h3
    rcases k3 with ⟨k3, -⟩ | k3
    · omega
    · obtain ⟨W, w1, w2, -⟩ := wait_spec hR k3 (show 0 < need + 1 by omega) (by omega)
      rw [w1, hw]; exact w2
  · have hl : s.spans.length ≠ 0 := by
      rcases h2 with ⟨h2, -⟩ | h2
      · exact absurd h2 hne
      · exact h2
    obtain ⟨W, w1, w2, w3, w4, w5⟩ := wait_spec hR hl (show 0 < need by omega) h1
    rw [w1]
    refine ⟨⟨fun h3 => ?_, fun h3 => ?_⟩, fun h3 => ?_⟩
    · rcases Int.lt_or_le n W with h4 | h4
      · have := w5 n hn h4; omega
      · exact h4
    · have := leastV_mono hR (show 0 ≤ W by omega) h3; omega
    · obtain ⟨-, k1, k2, -⟩ := waitV_ok h3
      obtain ⟨V, v1, v2, v3, v4, v5⟩ := wait_spec hR hl (show 0 < need + 1 by omega) k2
      rw [v1]
      show W < V
      rcases Int.lt_or_le W V with h4 | h4
      · exact h4
      · have a := leastV_step hR (n := V - 1) (by omega)
        rw [show V - 1 + 1 = V by omega] at a
        have := w5 (V - 1) (by omega) (by omega)
        omega
noncomputable def conGa : FuncId → Con := fun f => match f with
  | 15 => pureCon (detPC leastP_D)
  | 19 => pureCon (detPC wait_D)
  | 17 => pureCon (detPC lives_D)
  | _ => fun _ _ _ => Bad 1001
theorem conGa_ok : ConOk Try.prog conGa := fun f A H K h => by
  unfold conGa at h
  split at h
  · exact ⟨⟨Try.f15, Try.func15, by kernel_rfl, by kernel_rfl⟩, pureCon_ok leastP_ok h⟩
  · exact ⟨⟨Try.f19, Try.func19, by kernel_rfl, by kernel_rfl⟩, pureCon_ok wait_ok h⟩
  · exact ⟨⟨Try.f17, Try.func17, by kernel_rfl, by kernel_rfl⟩, pureCon_ok lives_ok h⟩
  · cases h
set_option maxRecDepth 100000 in
set_option maxHeartbeats 4000000 in
theorem galo_vc (s : Set) (need : Int) (n : Int) (fit_s : Siz.fit s) (fit_need : Siz.fit need) (fit_n : Siz.fit n) (hB : Siz.bulk s + Siz.bulk need + Siz.bulk n ≤ 1048576) : FnOk Try.prog 6 [.agg (Dat.enc fun _ => s), .i .i64 fun _ => need, .i .i64 fun _ => n] [] (outA (.bc true) []) := by
  refine fn_ok envOk zl conGa_ok noDraws_ok (keep := [0, 1, 2, 3, 6, 7, 8, 9, 10, 11, 12, 34]) Try.func6 rfl ?_
  have fin := @fin_b
  have finc := @fin_t
  have hp' : s.spans.length ≤ 9223372036854775807 := by
    have h1 := bulk_len Span.one_le s.spans
    simp only [Siz.bulk] at hB h1
    omega
  generalize outA (.bc true) [] = K at fin finc
  cbv
  repeat' first | (show Stp _; exfalso; first | omega | (exact h ‹_›) | (exact absurd ‹_› h)) | (refine Stp.mk ?_; cbv) | (refine Gen.mk fun r hr => ?_; (try simp only [Dat.ok, Dat.dec, Leaf.ok, Leaf.val, Span.eta, Set.eta, val_sl, val_nil] at hr); cbv) | exact trivial | rfl | refine Both.mk ?_ ?_ | (refine Imp.mk fun h => ?_; (try dsimp only at h); (try simp only [nc, Int.toNat_natCast, Bool.not_eq_true', Bool.not_eq_false', decide_eq_true_eq, decide_eq_false_iff_not, beq_iff_eq, beq_eq_false_iff_ne, bne_iff_ne, ne_eq, Bool.and_eq_true, Bool.or_eq_true, Bool.and_eq_false_iff, Bool.or_eq_false_iff, Int.not_le, Int.not_lt, Nat.not_le, Nat.not_lt] at h); (try simp only [nc] at h)) | refine Ob.mk ?_ ?_ | refine Eq'.mk ?_ | (refine AllN.mk fun i hi => ?_; cbv)
  all_goals ((try dsimp only at *); (try simp only [nc, Int.toNat_natCast, Bool.not_eq_true', Bool.not_eq_false', decide_eq_true_eq, decide_eq_false_iff_not, beq_iff_eq, beq_eq_false_iff_ne, bne_iff_ne, ne_eq, Bool.and_eq_true, Bool.or_eq_true, Bool.and_eq_false_iff, Bool.or_eq_false_iff, Int.not_le, Int.not_lt, Nat.not_le, Nat.not_lt] at *); (try simp only [nc] at *))
  all_goals try simp only [Dat.ok, Dat.dec, Leaf.ok, Leaf.val, Span.eta, Set.eta, val_sl] at *
  all_goals try simp only [leastP_S] at *
  all_goals first
    | exact finc
    | exact ⟨⟨trivial, rfl, fun i _ => Dat.hok _⟩, hp'⟩
    | exact fin (beq_iff_eq.2 (waitV_err (by assumption)))
    | skip
  all_goals have hw : (waitV s need).2 = 0 := by assumption
  all_goals obtain ⟨hR, hn0, hn1⟩ := bnd_ok (show (boundV s n false).2 = 0 by assumption)
  all_goals obtain ⟨-, k0, k1, -⟩ := waitV_ok hw
  all_goals have G := galois hw hn0
  all_goals simp only [leastV_bound hR hn0 hn1] at *
  all_goals first
    | (unfold InR; omega)
    | exact fin (decide_eq_true (G.2 (by assumption)))
    | (exfalso; exact h (decide_eq_decide.2 G.1))
    | fail
section
open Go.ChangeShapes Go.WideShapes Go.ChangeAt Go.RowKit Go.Joins Go.Deep
set_option linter.unusedVariables false
theorem galo_own : ownKnob Try.prog.godebug = none := by kernel_rfl
theorem galo_laidOut : laidOutB Try.prog = true := by kernel_rfl
theorem galo_readOk {ts : Array TypeId} (h : ts.toList.all (fun t => Try.prog.readableRec t && decide (t < Try.prog.types.size)) = true) : ∀ t ∈ ts.toList, Try.prog.readableRec t = true ∧ t < Try.prog.types.size := fun t ht => by
  have := List.all_eq_true.1 h t ht
  simpa using this
mutual
theorem galo_bD {H : Type} : ∀ d : DataW H, Rows.uptoBulk d = bulkD d
  | .lit l => by cases l <;> simp [Rows.uptoBulk, bulkD]
  | .nil => by simp [Rows.uptoBulk, bulkD]
  | .ptr d => by simp [Rows.uptoBulk, bulkD, galo_bD d]
  | .slice a b => by simp [Rows.uptoBulk, bulkD, galo_bL a, galo_bL b]
  | .agg a => by simp [Rows.uptoBulk, bulkD, galo_bL a]
  | .iface _ d => by simp [Rows.uptoBulk, bulkD, galo_bD d]
  | .map e => by simp [Rows.uptoBulk, bulkD, galo_bE e]
  | .held _ => by simp [Rows.uptoBulk, bulkD]
theorem galo_bL {H : Type} : ∀ d : List (DataW H), Rows.uptoBulkAll d = bulkL d
  | [] => by simp [Rows.uptoBulkAll, bulkL]
  | d :: r => by simp [Rows.uptoBulkAll, bulkL, galo_bD d, galo_bL r]
theorem galo_bE {H : Type} : ∀ d : List (Lit × DataW H), Rows.uptoBulkEntries d = bulkE d
  | [] => by simp [Rows.uptoBulkEntries, bulkE]
  | d :: r => by simp [Rows.uptoBulkEntries, bulkE, galo_bX d, galo_bE r]
theorem galo_bX {H : Type} : ∀ d : Lit × DataW H, Rows.uptoBulkEntry d = bulkX d
  | (l, d) => by cases l <;> simp [Rows.uptoBulkEntry, bulkX, galo_bD d]
end
set_option maxRecDepth 100000 in
theorem galo_lifted (os : Os) (started : os.Started) (H : Type) (enc : TypeId × Value → H) (F : Stop.Interp) :
    ReturnsInHanded {} Try.checked os 6 .any ((Rows.OpenSpec.upto Rows.supplyGaloisSpec).pre6 enc Try.prog Try.f6 Rows.supplyGaloisUptoRow.domain false) (((Rows.OpenSpec.upto Rows.supplyGaloisSpec).at F).post enc Try.prog Try.f6 false true false false) := by
  refine returnsInHanded_of_cond (C := Try.checked) (s := Rows.OpenSpec.upto Rows.supplyGaloisSpec) (k := Rows.uptoSmall) rfl galo_own started (by kernel_rfl) Try.func6
    (OpenSpec.witness (enc := enc) (C := Try.checked) (s := Rows.OpenSpec.upto Rows.supplyGaloisSpec) (k := Rows.uptoSmall) rfl false ⟨#[], #[.agg #[.int .i64 0, .slice none 0 0], .int .i64 0, .int .i64 0], []⟩ 8 (by kernel_rfl) (by kernel_rfl) (by kernel_rfl)
      (x := ([.agg [.lit (.int .i64 0), .nil], .lit (.int .i64 0), .lit (.int .i64 0)], [], [])) (by kernel_rfl) rfl (by kernel_rfl)) ?_
  intro W base args ds gs before hval0 hW _ hk _
  show Calls Try.prog 6 args W fun e W' => ∃ v, e = .returned v ∧ Rows.supplyGaloisSpec.post enc Try.prog Try.f6 false true false false W args v W'
  have hval : ∀ (j : Nat) t v, Try.f6.params[j]? = some t → args[j]? = some v → Value.okWide Try.prog W .any base t v := hval0
  have hW' := hW
  have hlt := hW.lt
  obtain ⟨p, q, hA0, hV, rfl, hfz, hnd⟩ := hW
  have hA : DataW.TrodAll enc Try.prog W 0 (fun _ => true) true Try.f6.params.toList args.toList ds p := hA0
  have hA1 := hA
  rw [Try.params6] at hA hval
  obtain ⟨v0, vs0, d0, ds0, p0, q0, hargs, rfl, rfl, h0, r0⟩ := trodAll_cons hA
  obtain ⟨v1, vs1, d1, ds1, p1, q1, rfl, rfl, rfl, h1, r1⟩ := trodAll_cons r0
  obtain ⟨v2, vs2, d2, ds2, p2, q2, rfl, rfl, rfl, h2, r2⟩ := trodAll_cons r1
  obtain ⟨rfl, rfl, rfl⟩ := trodAll_nil r2
  obtain rfl : args = #[v0, v1, v2] := by cases args; simp_all
  obtain ⟨rfl, rfl⟩ := trodVars_none hV
  obtain ⟨cs0, rfl, _⟩ := okWide_struct Try.underlying24 (hval 0 24 v0 rfl rfl)
  obtain ⟨y0, u0, b0, e0⟩ := arg_agg (α := Set) opn_Set h0
  obtain ⟨z1, rfl⟩ := okWide_int Try.underlying3 (hval 1 3 v1 rfl rfl)
  obtain ⟨y1, u1, b1, e1⟩ := arg_leaf (α := Int) (opn_int Try.underlying3) rfl h1
  obtain ⟨z2, rfl⟩ := okWide_int Try.underlying3 (hval 2 3 v2 rfl rfl)
  obtain ⟨y2, u2, b2, e2⟩ := arg_leaf (α := Int) (opn_int Try.underlying3) rfl h2
  have hB : Siz.bulk y0 + Siz.bulk y1 + Siz.bulk y2 ≤ 1048576 := by
    have h := of_decide_eq_true hk
    rw [galo_bL] at h
    simp only [List.append_nil, bulkL] at h
    omega
  have hR := repL_cons (M := fun _ => False) (β := fun _ => none) (cp := fun _ => 0) (.c e0) (repL_cons (M := fun _ => False) (β := fun _ => none) (cp := fun _ => 0) (.c e1) (repL_cons (M := fun _ => False) (β := fun _ => none) (cp := fun _ => 0) (.c e2) (repL_nil)))
  refine (law_callsA (galo_vc y0 y1 y2 u0 u1 u2 hB) hR).mono fun e W' ⟨he, bel⟩ => ?_
  subst he
  exact ⟨_, rfl, _, _, _, [], _, [], hW', trodAll_mk1 (shut_bool Try.underlying4 _), trodAll_below galo_laidOut bel (galo_readOk (by kernel_rfl)) (fun x hx => hlt x (List.mem_append_left _ hx)) hA1, rfl, bel.frame _, fun h => by cases h⟩
theorem SupplyGalois_proved : Rows.SupplyGaloisUptoSaid :=
  OpenClaim.holds_of_cond 6 Try.f6 rfl rfl rfl rfl rfl rfl rfl ⟨rfl, rfl, rfl, rfl, rfl⟩ rfl rfl rfl rfl rfl (by kernel_rfl) Try.func6 (by kernel_rfl)
    (of_decide_eq_true (by kernel_rfl)) (by unfold Func.isWrapper; first | (rw [if_pos (by decide +kernel)]; kernel_rfl) | (rw [if_neg (by decide +kernel)]; exact ⟨rfl, rfl⟩))
    (fun os started H enc _ F => galo_lifted os started H enc F)
end

end Go.Proofs.Ytmicojghbhhblaa
