/- What is to be proved of a function is enough. -/
import Derived.Test.YtadjemhbfaonbaaAbsRen
set_option linter.all false
namespace Go.Abs
open Go
section
variable {P : Program} {E : Env} {con : FuncId → Con} {w : World} {M : Nat → Prop} {β : Nat → Option Nat} {cp : Nat → Nat} {h : Hp} {o : Oper} {a : Act} {s : Tm}
variable {w0 : World} {M0 : Nat → Prop} {β0 : Nat → Option Nat} {cp0 : Nat → Nat} {h0 : Hp} {nt : Nat} {kl : List Nat}

theorem lk_prune {t : Nat} : ∀ (keep : List Nat), lk (prune keep s) t = lk s t ∨ lk (prune keep s) t = .any
  | [] => .inr rfl
  | i :: r => by
    simp only [prune, List.map_cons, lk]
    split
    · rename_i q; have q := beq_iff.1 q; subst q; exact .inl rfl
    · exact lk_prune r

theorem St.prune {keep : List Nat} (hs : St w0 M0 β0 cp0 h0 nt s h kl a w) : St w0 M0 β0 cp0 h0 nt (prune keep s) h kl a w := by
  obtain ⟨⟨M, β, cp, hh, ht, hak⟩, hn, hd⟩ := hs
  exact ⟨⟨M, β, cp, hh, fun t => (lk_prune keep).elim (fun e => by rw [e]; exact ht t) (fun e => by rw [e]; exact .c (.any _)), hak⟩, hn, hd⟩

theorem St.mono {kl' : List Nat} (hs : St w0 M0 β0 cp0 h0 nt s h kl a w) (hk : subN kl kl' = true) : St w0 M0 β0 cp0 h0 nt s h kl' a w := by
  obtain ⟨⟨M, β, cp, hh, ht, hak⟩, hn, hd⟩ := hs
  exact ⟨⟨M, β, cp, hh, ht, hak.mono fun b hb => subN_mem hk hb⟩, hn, hd⟩

theorem St.le {s' : Tm} {k : Hp} (hs : St w0 M0 β0 cp0 h0 nt s h kl a w) (hb : ∀ b, h0.length ≤ b → β0 b = none) (hk : h0.length ≤ k.length) (h1 : leT s s' k) (h2 : leH h k) : St w0 M0 β0 cp0 h0 nt s' k kl a w := by
  obtain ⟨⟨M, β, cp, hh, ht, hak⟩, hn, hd⟩ := hs
  unfold leT at h1
  rw [len_eq] at h1
  refine ⟨⟨M, cut k.length β, cp, leH_sound hh h2, leT_sound ht s' h1, ⟨hak.keep, fun b hbk h00 => ?_, hak.ext, fun g hg => ?_⟩⟩, hn, hd⟩
  · have h3 := hak.bk b hbk h00
    have h4 : b < k.length := by
      rcases Nat.lt_or_ge b h0.length with h5 | h5
      · omega
      · exact absurd (hb b h5) h00
    exact ⟨by simp [cut, h4, h3.1], h3.2⟩
  · obtain ⟨b, o, hb1, hb2, hb3⟩ := hg
    unfold leH at h2
    have hb4 : β b = some g := by
      simp only [cut] at hb3
      split at hb3
      · exact hb3
      · cases hb3
    rcases leHs_get h2 b o hb1 with ⟨x, hx, hxo⟩ | ⟨hlen, _⟩
    · exact hak.own g ⟨b, x, hx, leO_live hxo hb2, hb4⟩
    · rw [hh.out b hlen] at hb4; cases hb4

def Ex.to : Ex → Exit
  | .nrm => .normal
  | .exit i => .exit i
  | .ret => .ret

def DrwOk (P : Program) (drw : Drw) : Prop :=
  ∀ (w0 : World) (M0 : Nat → Prop) (β0 : Nat → Option Nat) (cp0 : Nat → Nat) (h0 : Hp) (nt : Nat) (id : Nat) (ops : Array Oper) (s : Tm) (h : Hp) (kl : List Nat) (a : Act) (w : World) (K : Tm → Hp → List Nat → Prop) (Q : Exit → Act → World → Prop),
    drw nt ops.toList s h kl K → St w0 M0 β0 cp0 h0 nt s h kl a w → (∀ s h kl a w, K s h kl → St w0 M0 β0 cp0 h0 nt s h kl a w → Q .normal a w) → (Code.region id ops true).wp P Q a w
theorem noDraws_ok : DrwOk P noDraws := fun _ _ _ _ _ _ _ _ _ _ _ _ _ _ _ h => by cases h

theorem St.ren {s' : Tm} {k : Hp} {as : As} {kl' : List Nat} (hs : St w0 M0 β0 cp0 h0 nt s h kl a w) (hb : ∀ b, h0.length ≤ b → β0 b = none) (h00 : h0.length = 0) (ho : okAs as = true) (hN : below' k.length as = true)
    (h1 : leT (renT as s) s' k) (h2 : leH (selH as h 0 k) k) : St w0 M0 β0 cp0 h0 nt s' k kl' a w := by
  obtain ⟨⟨M, β, cp, hh, ht, hak⟩, hn, hd⟩ := hs
  have hN := below'_fwd hN
  refine St.le (h := selH as h 0 k) (s := renT as s) ⟨⟨M, reβ as k.length β, recp as cp, sel_heap hh ho hN, fun t => ?_, ⟨hak.keep, fun b _ hb0 => absurd (hb b (by omega)) hb0, hak.ext, fun g hg => hak.own g (sel_blks hg)⟩⟩, hn, hd⟩ hb (by omega) h1 h2
  rw [lk_renT]
  exact ren_rep ho hN _ _ (ht t)

theorem condV_out {w : World} {M : Nat → Prop} {β : Nat → Option Nat} {cp : Nat → Nat} {p q : Th Prop} : ∀ (X : AV) (v : Value), Rep w M β cp X v → condV X p q → ∃ b : Bool, v = .bool b ∧ (match b with | true => p () | false => q ())
  | .bc true, v, hr, hv => ⟨true, rep_bc hr, hv⟩
  | .bc false, v, hr, hv => ⟨false, rep_bc hr, hv⟩
  | .b x, v, hr, hv => by
    cases hv with
    | mk h1 h2 =>
      cases h1 with
      | mk h1 =>
        cases h2 with
        | mk h2 =>
          refine ⟨x (), rep_b hr, ?_⟩
          cases hb : x () with
          | true => exact (h1 hb).out
          | false => exact (h2 hb).out
  | .ite c x y, v, hr, hv => by
    have key : (c () = true → Rep w M β cp x v) ∧ (c () = false → Rep w M β cp y v) := by
      cases hr with
      | c h => cases h with | ite _ _ _ _ h1 h2 => exact ⟨fun h => .c (h1 h), fun h => .c (h2 h)⟩
      | ite _ _ _ _ h1 h2 => exact ⟨h1, h2⟩
    cases hv with
    | mk h1 h2 =>
      cases h1 with
      | mk h1 =>
        cases h2 with
        | mk h2 =>
          cases hb : c () with
          | true => exact condV_out x v (key.1 hb) (h1 hb).out
          | false => exact condV_out y v (key.2 hb) (h2 hb).out
  | .any, _, _, hv => by cases hv
  | .i _ _, _, _, hv => by cases hv
  | .s _, _, _, hv => by cases hv
  | .nil, _, _, hv => by cases hv
  | .con _, _, _, hv => by cases hv
  | .agg _, _, _, hv => by cases hv
  | .tup _, _, _, hv => by cases hv
  | .ptr _ _, _, _, hv => by cases hv
  | .ept _ _ _ _, _, _, hv => by cases hv
  | .vw _ _ _ _, _, _, hv => by cases hv
  | .nn _ _, _, _, hv => by cases hv
  | .own _ _, _, _, hv => by cases hv
  | .sl _ _ _, _, _, hv => by cases hv
  | .rp _, _, _, hv => by cases hv
  | .fn _ _, _, _, hv => by cases hv

theorem vc_sound (hE : EnvOk P E) (hZ : Zl E) (hC : ConOk P con) {drw : Drw} (hD : DrwOk P drw) (hb : ∀ b, h0.length ≤ b → β0 b = none) {nh : Nat} (hnh : h0.length ≤ nh) {keep : List Nat} : ∀ (c : Code) (s : Tm) (h : Hp) (kl : List Nat) (a : Act) (w : World) (K : KEx) (Q : Exit → Act → World → Prop),
    vc E con drw nh nt keep c s h kl K → St w0 M0 β0 cp0 h0 nt s h kl a w → (∀ e s h kl a w, K e s h kl → St w0 M0 β0 cp0 h0 nt s h kl a w → Q e.to a w) → c.wp P Q a w
  | .skip, s, h, kl, a, w, K, Q, hv, hs, hQ => wp_skip (hQ .nrm s h kl a w hv hs)
  | .region id ops false, s, h, kl, a, w, K, Q, hv, hs, hQ => by
    refine wp_region ?_
    have := vcOps_sound (P := P) hE hZ hC (ops := ops) (K := fun s h kl => K .nrm (prune keep s) h kl) (Q := Q) (fun s h kl a w hK hst => hQ .nrm _ h kl a w hK hst.prune) ops.toList 0 rfl s h kl a w hv hs
    rw [List.range_eq_range']
    simpa using this
  | .region id ops true, s, h, kl, a, w, K, Q, hv, hs, hQ => hD _ _ _ _ _ _ id ops s h kl a w _ Q hv hs fun s h kl a w hK hst => hQ .nrm _ h kl a w hK hst.prune
  | .seq p q, s, h, kl, a, w, K, Q, hv, hs, hQ => by
    refine wp_seq (vc_sound hE hZ hC hD hb hnh p s h kl a w _ _ hv hs fun e s1 h1 kl1 a1 w1 hK hst => ?_)
    cases e with
    | nrm => exact vc_sound hE hZ hC hD hb hnh q s1 h1 kl1 a1 w1 K Q hK hst hQ
    | exit i => exact hQ (.exit i) s1 h1 kl1 a1 w1 hK hst
    | ret => exact hQ .ret s1 h1 kl1 a1 w1 hK hst
  | .cond c p q, s, h, kl, a, w, K, Q, hv, hs, hQ => by
    have hx : ∃ M β cp, Rep w M β cp (ev s c) (a.eval c) := by
      obtain ⟨⟨M, β, cp, hh, ht, hak⟩, hn, hd⟩ := hs
      exact ⟨M, β, cp, ev_rep ht c⟩
    obtain ⟨M, β, cp, hx⟩ := hx
    unfold vc at hv
    obtain ⟨b, hb1, hb2⟩ := condV_out _ _ hx hv
    cases b with
    | true => exact wp_cond_true hb1 (vc_sound hE hZ hC hD hb hnh p s h kl a w K Q hb2 hs hQ)
    | false => exact wp_cond_false hb1 (vc_sound hE hZ hC hD hb hnh q s h kl a w K Q hb2 hs hQ)
  | .block id c, s, h, kl, a, w, K, Q, hv, hs, hQ => by
    refine wp_block (vc_sound hE hZ hC hD hb hnh c s h kl a w _ _ hv hs fun e s1 h1 kl1 a1 w1 hK hst => ?_)
    cases e with
    | nrm => exact hQ .nrm s1 h1 kl1 a1 w1 hK hst
    | exit i =>
      simp only [Ex.to, Exit.inBlock]
      dsimp only at hK
      split at hK
      · rename_i q
        rw [if_pos (beq_iff.1 q)]
        exact hQ .nrm s1 h1 kl1 a1 w1 hK hst
      · rename_i q
        rw [if_neg fun e => by rw [beq_iff.2 e] at q; cases q]
        exact hQ (.exit i) s1 h1 kl1 a1 w1 hK hst
    | ret => exact hQ .ret s1 h1 kl1 a1 w1 hK hst
  | .loop c, s, h, kl, a, w, K, Q, hv, hs, hQ => by
    unfold vc at hv
    cases hv with
    | mk X I J kL μ x0 hk h00 h1 h2 h3 =>
      have hJ : ∀ x, h0.length ≤ (J x).length := fun x => by have := ble_iff.1 (h00 x); rw [len_eq] at this; omega
      refine wp_loop_ghost (fun n a w => ∃ x, μ x = n ∧ St w0 M0 β0 cp0 h0 nt (I x) (J x) kL a w) (μ x0) ⟨x0, rfl, (hs.mono hk).le hb (hJ x0) h1 h2⟩ ?_
      rintro n a1 w1 ⟨x, rfl, hst⟩
      refine vc_sound hE hZ hC hD hb hnh c (I x) (J x) kL a1 w1 _ _ (h3 x) hst fun e s2 h2 kl2 a2 w2 hK hst2 => ?_
      cases e with
      | nrm =>
        obtain ⟨y, y1, y2, y3, y4⟩ := hK
        exact ⟨μ y, y4, y, rfl, (hst2.mono y3).le hb (hJ y) y1 y2⟩
      | exit i => exact hQ (.exit i) s2 h2 kl2 a2 w2 hK hst2
      | ret => exact hQ .ret s2 h2 kl2 a2 w2 hK hst2
    | mkR hn X I J μ x0 h1 h2 h3 =>
      have h00 : h0.length = 0 := by omega
      refine wp_loop_ghost (fun n a w => ∃ x, μ x = n ∧ ∃ kl, St w0 M0 β0 cp0 h0 nt (I x) (J x) kl a w) (μ x0) ⟨x0, rfl, _, hs.le hb (by omega) h1 h2⟩ ?_
      rintro n a1 w1 ⟨x, rfl, kl1, hst⟩
      have hst : St w0 M0 β0 cp0 h0 nt (I x) (J x) [] a1 w1 := by
        obtain ⟨⟨M, β, cp, hh, ht, hak⟩, hn, hd⟩ := hst
        exact ⟨⟨M, β, cp, hh, ht, ⟨hak.keep, fun b _ hb0 => absurd (hb b (by omega)) hb0, hak.ext, hak.own⟩⟩, hn, hd⟩
      refine vc_sound hE hZ hC hD hb hnh c (I x) (J x) [] a1 w1 _ _ (h3 x) hst fun e s2 h2 kl2 a2 w2 hK hst2 => ?_
      cases e with
      | nrm =>
        obtain ⟨y, as, y1, y2, y3, y4, y5⟩ := hK
        rw [len_eq] at y2
        exact ⟨μ y, y5, y, rfl, [], hst2.ren hb h00 y1 y2 y3 y4⟩
      | exit i => exact hQ (.exit i) s2 h2 kl2 a2 w2 hK hst2
      | ret => exact hQ .ret s2 h2 kl2 a2 w2 hK hst2
    | un n hv =>
      refine wp_loop_ghost (fun n a w => ∃ s h kl, UnVC (fun s h kl K => vc E con drw nh nt keep c s h kl K) K n s h kl ∧ St w0 M0 β0 cp0 h0 nt s h kl a w) n ⟨s, h, kl, hv, hs⟩ ?_
      rintro n a1 w1 ⟨s1, h1, kl1, hv1, hst⟩
      cases n with
      | zero => cases hv1
      | succ n =>
        unfold UnVC at hv1
        refine vc_sound hE hZ hC hD hb hnh c s1 h1 kl1 a1 w1 _ _ hv1 hst fun e s2 h2 kl2 a2 w2 hK hst2 => ?_
        cases e with
        | nrm => exact ⟨n, Nat.lt_succ_self n, s2, h2, kl2, hK, hst2⟩
        | exit i => exact hQ (.exit i) s2 h2 kl2 a2 w2 hK hst2
        | ret => exact hQ .ret s2 h2 kl2 a2 w2 hK hst2
  | .exit i, s, h, kl, a, w, K, Q, hv, hs, hQ => wp_exit (hQ (.exit i) s h kl a w hv hs)
  | .ret, s, h, kl, a, w, K, Q, hv, hs, hQ => wp_ret (hQ .ret s h kl a w hv hs)
  | .rangeFunc .., s, h, kl, a, w, K, Q, hv, hs, hQ => by cases hv
  | .scope _, s, h, kl, a, w, K, Q, hv, hs, hQ => by cases hv
  | .label _, s, h, kl, a, w, K, Q, hv, hs, hQ => by cases hv
  | .goto _, s, h, kl, a, w, K, Q, hv, hs, hQ => by cases hv
  | .refuse _, s, h, kl, a, w, K, Q, hv, hs, hQ => by cases hv

theorem resAV_sound (hE : EnvOk P E) (hh : HeapRel w M β cp h) (ht : ∀ t, Rep w M β cp (lk s t) (a.tmps.getD t undef)) {r : ResultVar} {v : AV} (hr : resAV E s h r = some v) :
    ∃ v', (match r with | .tmp t => pure (a.tmps.getD t undef) | .cell p t => do loadVar t (← asAddr (a.tmps.getD p undef)) : Sem Value).run P w = .ok v' w ∧ Rep w M β cp v v' := by
  cases r with
  | tmp t => simp only [resAV, Option.some.injEq] at hr; subst hr; exact ⟨_, rfl, ht t⟩
  | cell p t =>
    simp only [resAV] at hr
    split at hr
    · rename_i v0 hl
      cases hr
      have hs := load_val (P := P) (hE.ty t) hh (ht p)
      rw [hl] at hs
      obtain ⟨_, ad, v', he, hl, hr⟩ := hs
      exact ⟨v', by simp [he, asAddr, hl], hr⟩
    · cases hr

theorem resAVs_sound (hE : EnvOk P E) (hh : HeapRel w M β cp h) (ht : ∀ t, Rep w M β cp (lk s t) (a.tmps.getD t undef)) : ∀ (rs : List ResultVar) (vs : List AV), resAVs E s h rs = some vs →
    ∃ xs : List Value, (rs.mapM fun r => (match r with | .tmp t => pure (a.tmps.getD t undef) | .cell p t => do loadVar t (← asAddr (a.tmps.getD p undef)) : Sem Value)).run P w = .ok xs w ∧ RepL w M β cp vs xs
  | [], vs, hr => by simp only [resAVs, Option.some.injEq] at hr; subst hr; exact ⟨[], by simp, rfl, fun j x hj => by simp at hj⟩
  | r :: rs, vs, hr => by
    simp only [resAVs] at hr
    split at hr
    · rename_i v vs' h1 h2
      cases hr
      obtain ⟨x, r1, r2⟩ := resAV_sound (P := P) hE hh ht h1
      obtain ⟨xs, r3, r4⟩ := resAVs_sound hE hh ht rs vs' h2
      refine ⟨x :: xs, ?_, by have := r4.1; simp; omega, fun j y hj => ?_⟩
      · rw [List.mapM_cons, Sem.run_bind, r1, Result.andThen_ok, Sem.run_bind, r3]
        rfl
      · cases j with
        | zero => simp at hj; subst hj; simpa using r2
        | succ j => have := r4.2 j y (by simpa using hj); simpa using this
    · cases hr

theorem ret_sound (hE : EnvOk P E) {fn : Func} (hh : HeapRel w M β cp h) (ht : ∀ t, Rep w M β cp (lk s t) (a.tmps.getD t undef)) {K : Kont} (hv : retVC E fn.results.toList s h kl K) :
    ∃ v r, (results fn a.tmps).run P w = .ok v w ∧ K r h kl ∧ Rep w M β cp r v := by
  unfold retVC at hv
  have key : ∀ vs, resAVs E s h fn.results.toList = some vs → ∃ xs : List Value, (results fn a.tmps).run P w = .ok (if h : xs.toArray.size = 1 then xs.toArray[0] else .tuple xs.toArray) w ∧ RepL w M β cp vs xs := by
    intro vs hvs
    obtain ⟨xs, r1, r2⟩ := resAVs_sound (P := P) hE hh ht _ vs hvs
    refine ⟨xs, ?_, r2⟩
    unfold results
    rw [Array.mapM_eq_mapM_toList, Sem.run_bind, Sem.run_map]
    exact Eq.trans (congrArg (a₂ := Result.ok xs w) (fun r : Result (List Value) => (r.andThen fun l w' => Result.ok l.toArray w').andThen _) r1) rfl
  split at hv
  · rename_i v hvs
    obtain ⟨xs, r1, r2⟩ := key _ hvs
    match xs, r2 with
    | [x], r2 => exact ⟨x, v, by simpa using r1, hv, by have := r2.2 0 v rfl; simpa using this⟩
    | [], r2 => exact absurd r2.1 (by simp)
    | _ :: _ :: _, r2 => exact absurd r2.1 (by simp)
  · rename_i vs hn hvs
    obtain ⟨xs, r1, r2⟩ := key _ hvs
    have hne : ¬ xs.toArray.size = 1 := by
      intro h1
      have h2 := r2.1
      simp only [List.size_toArray] at h1
      match vs, hn, h2 with
      | [v], hn, _ => exact hn v rfl
      | [], _, h2 => simp at h2; simp [h2] at h1
      | _ :: _ :: _, _, h2 => simp at h2; omega
    rw [dif_neg hne] at r1
    exact ⟨_, .tup vs, r1, hv, .tup vs _ (by simpa using r2.1) fun j x hj => by rw [getD_list]; exact r2.2 j x hj⟩
  · cases hv

theorem lk_argTm : ∀ (A : List AV) (n t : Nat), lk (argTm n A) t = if n ≤ t then A.getD (t - n) .any else .any
  | [], n, t => by simp [argTm, lk]
  | x :: A, n, t => by
    simp only [argTm, lk]
    split
    · rename_i q; have q := beq_iff.1 q; subst q; simp
    · rename_i q
      have q : n ≠ t := fun e => by rw [beq_iff.2 e] at q; cases q
      rw [lk_argTm A (n + 1) t]
      by_cases h1 : n ≤ t
      · rw [if_pos h1, if_pos (by omega), show t - n = (t - (n + 1)) + 1 by omega]
        simp
      · rw [if_neg h1, if_neg (by omega)]

/-- WHAT IS TO BE PROVED OF A FUNCTION IS ENOUGH. -/
theorem fn_ok (hE : EnvOk P E) (hZ : Zl E) (hC : ConOk P con) {drw : Drw} (hD : DrwOk P drw) {f : FuncId} {fn : Func} {c : Code} (hf : P.funcs[f]? = some fn) (hb : fn.body = some c) {keep : List Nat} {A : List AV} {H : Hp} {K : Kont}
    (hv : fnVC E con drw fn.ntmps keep fn.results.toList c A H K) : FnOk P f A H K := by
  intro w M β cp vs hh hA
  unfold fnVC at hv
  split at hv
  · rename_i q
    have q := ble_iff.1 q
    rw [len_eq] at q
    have hsz : vs.size = A.length := by simpa using hA.1
    refine calls_of_wp hf hb (vc_sound (w0 := w) (M0 := M) (β0 := β) (cp0 := cp) (h0 := H) (nt := fn.ntmps) hE hZ hC hD hh.out (by rw [len_eq]; exact Nat.le_refl _) c (argTm 0 A) H [] _ w _ _ hv ⟨⟨M, β, cp, hh, fun t => ?_, AK.refl⟩, by simp; omega, rfl⟩ ?_)
    · rw [lk_argTm, if_pos (Nat.zero_le _), Nat.sub_zero]
      by_cases ht : t < A.length
      · have h1 : A[t]? = some A[t] := List.getElem?_eq_getElem ht
        have := hA.2 t _ h1
        rw [List.getD_eq_getElem?_getD, h1]
        have e : (vs ++ Array.replicate (fn.ntmps - vs.size) undef).getD t undef = vs.toList.getD t undef := by
          rw [Array.getD_eq_getD_getElem?, Array.getElem?_append_left (by omega), ← Array.getD_eq_getD_getElem?, getD_arr]
        rw [e]
        exact this
      · rw [List.getD_eq_getElem?_getD, List.getElem?_eq_none (by omega)]
        exact .c (.any _)
    · intro e s h kl a w' hK hst
      obtain ⟨⟨M', β', cp', hh', ht', hak⟩, hn, hd⟩ := hst
      cases e with
      | exit i => cases hK
      | nrm =>
        obtain ⟨v, r, h1, h2, h3⟩ := ret_sound (P := P) (fn := fn) hE hh' ht' hK
        exact ⟨hd, v, h1, v, r, h, kl, M', β', cp', rfl, h2, hh', hak, h3⟩
      | ret =>
        obtain ⟨v, r, h1, h2, h3⟩ := ret_sound (P := P) (fn := fn) hE hh' ht' hK
        exact ⟨hd, v, h1, v, r, h, kl, M', β', cp', rfl, h2, hh', hak, h3⟩
  · cases hv

end
end Go.Abs
