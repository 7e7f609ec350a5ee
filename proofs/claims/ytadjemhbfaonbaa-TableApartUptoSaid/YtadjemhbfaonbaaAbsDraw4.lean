/- A statement whose order is open, as a walk takes it. -/
import Derived.Test.YtadjemhbfaonbaaAbsDraw3
set_option linter.all false
namespace Go.Abs
open Go
section
variable {P : Program} {E : Env} {det : FuncId → Option Dt} {w0 : World} {M0 : Nat → Prop} {β0 : Nat → Option Nat} {cp0 : Nat → Nat} {h0 : Hp} {nt : Nat} {kl : List Nat} {bef : List (List Nat)} {tr : List TrE} {sB s1 : Tm} {hB h1 : Hp} {ops : Array Oper} {listed : Array Bool} {Q : Exit → Act → World → Prop} {w : World} {a : Act}

theorem all_listed (hbef : befs 0 [] ops.toList = some bef) (hr : Region.ready .any ops listed = []) (hsz : listed.size = ops.size) : ∀ n i, i < n → i < ops.size → listed.getD i false = true := by
  intro n
  induction n with
  | zero => intro i hi; omega
  | succ n ih =>
    intro i hi hlt
    by_cases hn : i < n
    · exact ih i hn hlt
    · cases hl : listed.getD i false with
      | true => rfl
      | false =>
        have hoi : ops[i]? = some ops[i] := Array.getElem?_eq_getElem hlt
        have hm : i ∈ Region.ready .any ops listed := by
          refine mem_ready.2 ⟨by simpa [Array.getD_eq_getD_getElem?, hsz, hlt] using hl, ops[i], hoi, fun e he hb => ?_⟩
          rw [binds_any] at hb
          have := ((befs_get hbef rfl).2 i ops[i] (by simpa using hoi)).2 e he hb
          exact ih e.on (by omega) (by omega)
        rw [hr] at hm; cases hm

theorem sim_end (hr : Run E det nt (hB.length + ops.size) (ops.toList.map (·.dst)) ops.toList sB hB tr s1 h1) (hbef : befs 0 [] ops.toList = some bef)
    (hs : Sim w0 M0 β0 cp0 h0 nt kl bef tr sB hB ops listed a w) (hnil : Region.ready .any ops listed = []) : St w0 M0 β0 cp0 h0 nt s1 h1 kl a w := by
  obtain ⟨f1, f2, f3, f4, f5, f6⟩ := hr.fin
  obtain ⟨M, β, cp, s, h, hh, ht, hak, hS, hH, hlen, hβ⟩ := hs.ex
  have hall := fun i (hi : i < ops.size) => all_listed hbef hnil hs.sz (i + 1) i (by omega) hi
  simp only [Array.length_toList] at f1 f2 f3 f5
  have hS' : ∀ t, lk s t = lk s1 t := fun t => by rw [hS, f2]; exact lastW_congr fun k hk _ => hall k hk
  have hH' : ∀ b, nth .dead h b = nth .dead h1 b := fun t => by rw [hH, f3]; exact lastW_congr fun k hk _ => hall k hk
  have hget : ∀ (b : Nat) (o : AObj), h1[b]? = some o → h[b]? = some o := by
    intro b o hb
    have hlt : b < h1.length := (List.getElem?_eq_some_iff.1 hb).1
    have h2 := hH' b
    rw [nth_eq, nth_eq, List.getD_eq_getElem?_getD, List.getD_eq_getElem?_getD, hb, List.getElem?_eq_getElem (by omega)] at h2
    simp only [Option.getD_some] at h2
    rw [List.getElem?_eq_getElem (by omega), h2]
  refine ⟨⟨M, β, cp, ⟨fun b hb => ?_, fun b o hb => hh.obj b o (hget b o hb), fun b b' o o' g hb hb' => hh.inj b b' o o' g (hget b o hb) (hget b' o' hb'), hh.dom⟩, fun t => by rw [← hS']; exact ht t, ⟨hak.keep, hak.bk, hak.ext, fun g hg => ?_⟩⟩, hs.nt, hs.df⟩
  · cases hb0 : β b with
    | none => rfl
    | some g =>
      rcases hβ b (by rw [hb0]; simp) with h2 | ⟨k, _, h2⟩
      · omega
      · have := f6 k b h2; omega
  · obtain ⟨b, o, hb, hl, hg⟩ := hg
    exact hak.own g ⟨b, o, hget b o hb, hl, hg⟩

def unl (ops : Array Oper) (listed : Array Bool) : Nat := ((List.range ops.size).filter fun i => !listed.getD i true).length

theorem filter_lt {p q : Nat → Bool} {i : Nat} (hpq : ∀ k, q k = true → p k = true) (hp : p i = true) (hq : q i = false) : ∀ {l : List Nat}, i ∈ l → (l.filter q).length < (l.filter p).length
  | [], h => by simp at h
  | x :: l, h => by
    have hle : ∀ l : List Nat, (l.filter q).length ≤ (l.filter p).length := by
      intro l
      induction l with
      | nil => simp
      | cons y l ih =>
        simp only [List.filter_cons]
        split
        · rename_i hy; rw [if_pos (hpq y hy)]; simp; exact ih
        · split
          · simp; omega
          · exact ih
    simp only [List.filter_cons]
    rcases List.mem_cons.1 h with rfl | h
    · rw [if_pos hp, if_neg (by simp [hq])]; simp; have := hle l; omega
    · have ih := filter_lt hpq hp hq h
      split
      · rename_i hx; rw [if_pos (hpq x hx)]; simp; exact ih
      · split
        · simp; omega
        · exact ih

theorem sim_any (hE : EnvOk P E) (hZ : Zl E) (hD : DetOk P det) (hr : Run E det nt (hB.length + ops.size) (ops.toList.map (·.dst)) ops.toList sB hB tr s1 h1) (hbef : befs 0 [] ops.toList = some bef) (hok : okAll bef [] (tr.map fpOf) = true)
    (hQ : ∀ a w, St w0 M0 β0 cp0 h0 nt s1 h1 kl a w → Q .normal a w) : ∀ (fuel : Nat) (listed : Array Bool) (a : Act) (w : World), unl ops listed ≤ fuel → Sim w0 M0 β0 cp0 h0 nt kl bef tr sB hB ops listed a w → wpAny P .any ops Q fuel listed a w := by
  intro fuel
  induction fuel with
  | zero =>
    intro listed a w hu hs
    have hnil : Region.ready .any ops listed = [] := by
      refine List.eq_nil_iff_forall_not_mem.2 fun i hi => ?_
      obtain ⟨h1, o, h2, _⟩ := mem_ready.1 hi
      have hlt : i < ops.size := (Array.getElem?_eq_some_iff.1 h2).1
      have : i ∈ (List.range ops.size).filter fun i => !listed.getD i true := List.mem_filter.2 ⟨List.mem_range.2 hlt, by rw [h1]; rfl⟩
      unfold unl at hu
      have h0 := List.eq_nil_of_length_eq_zero (Nat.le_zero.1 hu)
      rw [h0] at this
      cases this
    exact ⟨hnil, hQ a w (sim_end hr hbef hs hnil)⟩
  | succ fuel ih =>
    intro listed a w hu hs
    refine ⟨fun hnil => hQ a w (sim_end hr hbef hs hnil), fun i hi => sim_step hE hZ hD hr hbef hok hs hi fun a w hs' => ih _ a w ?_ hs'⟩
    obtain ⟨h1, o, h2, _⟩ := mem_ready.1 hi
    have hlt : i < ops.size := (Array.getElem?_eq_some_iff.1 h2).1
    have hls : i < listed.size := by rw [hs.sz]; exact hlt
    have := filter_lt (p := fun i => !listed.getD i true) (q := fun k => !(listed.setIfInBounds i true).getD k true) (i := i) (fun k hk => by
      by_cases hki : k = i
      · subst hki; simp [Array.getD_eq_getD_getElem?, hls] at hk
      · rw [getD_set_ne true (Ne.symm hki)] at hk; exact hk) (by rw [h1]; rfl) (by simp [Array.getD_eq_getD_getElem?, hls]) (List.mem_range.2 hlt)
    unfold unl at hu ⊢
    omega

variable {M : Nat → Prop} {β : Nat → Option Nat} {cp : Nat → Nat} {h : Hp} {n b : Nat} {β2 : Nat → Option Nat} {cp2 : Nat → Nat} {s : Tm}
theorem beq_false {c d : Nat} (h : Nat.beq c d = false) : c ≠ d := fun e => by rw [beq_iff.2 e] at h; cases h
mutual
theorem mv_rep (h1 : β2 b = β n ∧ cp2 b = cp n) (h2 : ∀ c, c ≠ b → β2 c = β c ∧ cp2 c = cp c) : ∀ (x : AV) (v : Value), Rep w M β cp x v → Rep w M β2 cp2 (mvA n b x) v
  | .any, v, _ => .c (.any v)
  | .bc p, v, hr => by cases hr with | c h => exact .c h
  | .b p, v, hr => by cases hr with | c h => exact .c h
  | .i k n, v, hr => by cases hr with | c h => exact .c h
  | .s x, v, hr => by cases hr with | c h => exact .c h
  | .nil, v, hr => by cases hr with | c h => exact .c h
  | .con x, v, hr => by cases hr with | c h => exact .c h
  | .sl sz n f, v, hr => by cases hr with | c h => exact .c h
  | .rp l, v, hr => by cases hr with | c h => exact .c h
  | .agg l, v, hr => by
    obtain ⟨cs, rfl, hL, ho⟩ := rep_agg hr
    have := mvL_rep h1 h2 l _ hL
    exact .agg _ cs (by simpa using this.1) (fun v hv => ho v (by simpa using hv)) fun j x hj => by rw [getD_arr]; exact this.2 j x hj
  | .tup l, v, hr => by
    obtain ⟨cs, rfl, hL⟩ := rep_tup hr
    have := mvL_rep h1 h2 l _ hL
    exact .tup _ cs (by simpa using this.1) fun j x hj => by rw [getD_arr]; exact this.2 j x hj
  | .fn f l, v, hr => by
    obtain ⟨cs, rfl, hL⟩ := rep_fn hr
    have := mvL_rep h1 h2 l _ hL
    exact .fn f _ cs (by simpa using this.1) fun j x hj => by rw [getD_arr]; exact this.2 j x hj
  | .ptr c o, v, hr => by
    obtain ⟨g, hg, rfl⟩ := rep_ptr hr
    simp only [mvA]
    split
    · rename_i q; have q := beq_iff.1 q; subst q; exact .ptr b o g (h1.1.trans hg)
    · split
      · exact .c (.any _)
      · rename_i q; exact .ptr c o g ((h2 c (beq_false q)).1.trans hg)
  | .ept c sz i o, v, hr => by
    obtain ⟨g, hg, rfl⟩ := rep_ept hr
    simp only [mvA]
    split
    · rename_i q; have q := beq_iff.1 q; subst q; exact .ept b sz i o g (h1.1.trans hg)
    · split
      · exact .c (.any _)
      · rename_i q; exact .ept c sz i o g ((h2 c (beq_false q)).1.trans hg)
  | .own c m, v, hr => by
    simp only [mvA]
    rcases rep_own hr with ⟨h0, rfl⟩ | ⟨g, hg, hn, rfl⟩
    · split
      · exact .own0 b m h0
      · split
        · exact .c (.any _)
        · exact .own0 c m h0
    · split
      · rename_i q; have q := beq_iff.1 q; subst q
        rw [← h1.2]
        exact .own b m g (h1.1.trans hg) (by rw [h1.2]; exact hn)
      · split
        · exact .c (.any _)
        · rename_i q
          have q := h2 c (beq_false q)
          rw [← q.2]
          exact .own c m g (q.1.trans hg) (by rw [q.2]; exact hn)
  | .nn c m, v, hr => by
    simp only [mvA]
    obtain ⟨g, hg, hn, rfl⟩ := rep_nn hr
    split
    · rename_i q; have q := beq_iff.1 q; subst q
      rw [← h1.2]
      exact .nn b m g (h1.1.trans hg) (by rw [h1.2]; exact hn)
    · split
      · exact .c (.any _)
      · rename_i q
        have q := h2 c (beq_false q)
        rw [← q.2]
        exact .nn c m g (q.1.trans hg) (by rw [q.2]; exact hn)
  | .vw c sz p m, v, hr => by
    simp only [mvA]
    rcases rep_vw hr with ⟨h0, a, c', hc', rfl⟩ | ⟨g, hg, hn, rfl⟩
    · split
      · exact .vw0 b sz p m a c' h0 hc'
      · split
        · exact .c (.any _)
        · exact .vw0 c sz p m a c' h0 hc'
    · split
      · rename_i q; have q := beq_iff.1 q; subst q
        rw [← h1.2]
        exact .vw b sz p m g (h1.1.trans hg) (by rw [h1.2]; exact hn)
      · split
        · exact .c (.any _)
        · rename_i q
          have q := h2 c (beq_false q)
          rw [← q.2]
          exact .vw c sz p m g (q.1.trans hg) (by rw [q.2]; exact hn)
  | .ite c x y, v, hr => by
    have key : (c () = true → Rep w M β cp x v) ∧ (c () = false → Rep w M β cp y v) := by
      cases hr with
      | c h => cases h with | ite _ _ _ _ h1 h2 => exact ⟨fun h => .c (h1 h), fun h => .c (h2 h)⟩
      | ite _ _ _ _ h1 h2 => exact ⟨h1, h2⟩
    exact .ite c _ _ v (fun hc => mv_rep h1 h2 x v (key.1 hc)) (fun hc => mv_rep h1 h2 y v (key.2 hc))
theorem mvL_rep (h1 : β2 b = β n ∧ cp2 b = cp n) (h2 : ∀ c, c ≠ b → β2 c = β c ∧ cp2 c = cp c) : ∀ (l : List AV) (vs : List Value), RepL w M β cp l vs → RepL w M β2 cp2 (mvL n b l) vs
  | [], vs, hr => ⟨hr.1, fun j x hj => by simp [mvL] at hj⟩
  | x :: l, vs, hr => by
    match vs, hr with
    | [], hr => exact absurd hr.1 (by simp)
    | u :: vs, hr =>
      have hx := mv_rep h1 h2 x u (by have := hr.2 0 x rfl; simpa using this)
      have := mvL_rep h1 h2 l vs ⟨by have := hr.1; simp at this; omega, fun j x hj => by have := hr.2 (j + 1) x (by simpa using hj); simpa using this⟩
      refine ⟨by have := this.1; simp [mvL]; omega, fun j z hj => ?_⟩
      cases j with
      | zero => simp [mvL] at hj; subst hj; simpa using hx
      | succ j => have := this.2 j z (by simpa [mvL] using hj); simpa using this
end
theorem mvO_rep (h1 : β2 b = β n ∧ cp2 b = cp n) (h2 : ∀ c, c ≠ b → β2 c = β c ∧ cp2 c = cp c) {c c' : Nat} (hc : β2 c' = β c ∧ cp2 c' = cp c) {x : AObj} (hr : ObjRel w M β cp c x) : ObjRel w M β2 cp2 c' (mvO n b x) := by
  cases x with
  | dead => trivial
  | blk cs =>
    obtain ⟨g, cur, t, e1, e2, e3, e4, e5⟩ := hr
    exact ⟨g, cur, t, hc.1.trans e1, e2, e3, mvL_rep h1 h2 _ _ e4, e5⟩
  | vec e sz m f =>
    rcases hr with ⟨e1, e2⟩ | ⟨g, cur, e1, e2, e3, e4, e5, e6, e7, e8⟩
    · exact .inl ⟨hc.1.trans e1, e2⟩
    · exact .inr ⟨g, cur, hc.1.trans e1, e2, e3, by rw [hc.2]; exact e4, e5, by rw [hc.2]; exact e6, by rw [hc.2]; exact e7, e8⟩
theorem mvO_live {x : AObj} : (mvO n b x).live = x.live := by cases x <;> rfl
theorem mvHs_len {O : AObj} : ∀ (h : Hp) (i : Nat), (mvHs n b O i h).length = h.length
  | [], _ => rfl
  | o :: r, i => by simp [mvHs, mvHs_len r]
theorem mvHs_get {O : AObj} : ∀ (h : Hp) (i c : Nat) (o : AObj), (mvHs n b O i h)[c]? = some o → ∃ x, h[c]? = some x ∧ ((i + c = n ∧ o = .dead) ∨ (i + c ≠ n ∧ i + c = b ∧ o = O) ∨ (i + c ≠ n ∧ i + c ≠ b ∧ o = mvO n b x))
  | [], _, _, _, hc => by simp [mvHs] at hc
  | x :: r, i, 0, o, hc => by
    simp only [mvHs, List.getElem?_cons_zero, Option.some.injEq] at hc
    refine ⟨x, rfl, ?_⟩
    split at hc
    · rename_i q; exact .inl ⟨beq_iff.1 q, hc.symm⟩
    · rename_i q
      split at hc
      · rename_i q2; exact .inr (.inl ⟨beq_false q, beq_iff.1 q2, hc.symm⟩)
      · rename_i q2; exact .inr (.inr ⟨beq_false q, beq_false q2, hc.symm⟩)
  | x :: r, i, c + 1, o, hc => by
    simp only [mvHs, List.getElem?_cons_succ] at hc
    obtain ⟨y, hy, h1⟩ := mvHs_get r (i + 1) c o hc
    exact ⟨y, by simpa using hy, by rw [show i + (c + 1) = i + 1 + c by omega]; exact h1⟩
theorem lk_mvT : ∀ (s : Tm) (t : Nat), lk (mvT n b s) t = mvA n b (lk s t)
  | [], t => rfl
  | (i, v) :: r, t => by
    simp only [mvT, lk]
    split
    · rfl
    · exact lk_mvT r t
theorem mv_st (hs : St w0 M0 β0 cp0 h0 nt s h kl a w) (hne : n ≠ b) (hb : b < h.length) : St w0 M0 β0 cp0 h0 nt (mvT n b s) (mvHp n b h) (b :: kl) a w := by
  obtain ⟨⟨M, β, cp, hh, ht, hak⟩, hn, hd⟩ := hs
  have h1 : updO β b (β n) b = β n ∧ updN cp b (cp n) b = cp n := by simp [updO, updN]
  have h2 : ∀ c, c ≠ b → updO β b (β n) c = β c ∧ updN cp b (cp n) c = cp c := fun c hc => by simp [updO, updN, hc]
  have hO : ∀ x, h[n]? = some x → nth .dead h n = x := fun x hx => by rw [nth_eq, List.getD_eq_getElem?_getD, hx]; rfl
  have orig : ∀ c o g, (mvHp n b h)[c]? = some o → o.live = true → updO β b (β n) c = some g → ∃ c' x, h[c']? = some x ∧ x.live = true ∧ β c' = some g ∧ (c = b ∧ c' = n ∨ c ≠ b ∧ c ≠ n ∧ c' = c) := by
    intro c o g hc hl hg
    obtain ⟨x, hx, h3⟩ := mvHs_get _ _ _ _ hc
    simp only [Nat.zero_add] at h3
    rcases h3 with ⟨_, rfl⟩ | ⟨e1, e2, rfl⟩ | ⟨e1, e2, rfl⟩
    · cases hl
    · subst e2
      rw [h1.1] at hg
      cases hx' : h[n]? with
      | none => rw [hh.out n (by rw [List.getElem?_eq_none_iff] at hx'; exact hx')] at hg; cases hg
      | some y =>
        rw [mvO_live, hO y hx'] at hl
        exact ⟨n, y, hx', hl, hg, .inl ⟨rfl, rfl⟩⟩
    · rw [(h2 c e2).1] at hg
      rw [mvO_live] at hl
      exact ⟨c, x, hx, hl, hg, .inr ⟨e2, e1, rfl⟩⟩
  refine ⟨⟨M, updO β b (β n), updN cp b (cp n), ⟨fun c hc => ?_, fun c o hc => ?_, fun c c' o o' g hc hc' hl hl' hg hg' => ?_, hh.dom⟩, fun t => by rw [lk_mvT]; exact mv_rep h1 h2 _ _ (ht t), ⟨hak.keep, fun c hc h00 => ?_, hak.ext, ?_⟩⟩, hn, hd⟩
  · unfold mvHp at hc
    rw [mvHs_len] at hc
    rw [(h2 c (by omega)).1]
    exact hh.out c hc
  · obtain ⟨x, hx, h3⟩ := mvHs_get _ _ _ _ hc
    simp only [Nat.zero_add] at h3
    rcases h3 with ⟨_, rfl⟩ | ⟨e1, e2, rfl⟩ | ⟨e1, e2, rfl⟩
    · trivial
    · subst e2
      cases hx' : h[n]? with
      | none => rw [nth_eq, List.getD_eq_getElem?_getD, hx']; trivial
      | some y => rw [hO y hx']; exact mvO_rep h1 h2 h1 (hh.obj n y hx')
    · exact mvO_rep h1 h2 (h2 c e2) (hh.obj c x hx)
  · obtain ⟨d, x, a1, a2, a3, a4⟩ := orig c o g hc hl hg
    obtain ⟨d', x', b1, b2, b3, b4⟩ := orig c' o' g hc' hl' hg'
    have := hh.inj d d' x x' g a1 b1 a2 b2 a3 b3
    omega
  · rw [memN_cons, Bool.or_eq_false_iff, decide_eq_false_iff_not] at hc
    have h3 := h2 c (fun e => hc.1 e.symm)
    have h4 := hak.bk c hc.2 h00
    exact ⟨h3.1.trans h4.1, h3.2.trans h4.2⟩
  · rintro g ⟨c, o, hc, hl, hg⟩
    obtain ⟨d, x, a1, a2, a3, _⟩ := orig c o g hc hl hg
    exact hak.own g ⟨d, x, a1, a2, a3⟩

theorem settle_st : ∀ (tr : List Fp) (s : Tm) (h : Hp) (kl : List Nat) (r : Tm × Hp × List Nat), settle tr s h kl = some r → St w0 M0 β0 cp0 h0 nt s h kl a w → St w0 M0 β0 cp0 h0 nt r.1 r.2.1 r.2.2 a w
  | [], s, h, kl, r, hv, hs => by simp only [settle, Option.some.injEq] at hv; subst hv; exact hs
  | e :: tr, s, h, kl, r, hv, hs => by
    simp only [settle] at hv
    split at hv
    · cases hv
    · rename_i s1 h1 kl1 he
      have hs1 := settle_st tr s h kl _ he hs
      split at hv
      · simp only [Option.some.injEq] at hv; subst hv; exact hs1
      · split at hv
        · rename_i q1 q2
          have q2 := blt_iff.1 q2
          rw [len_eq] at q2
          simp only [Option.some.injEq] at hv; subst hv
          exact mv_st hs1 (beq_false q1) q2
        · cases hv

/-- A statement whose order is open: the order of the text, and what may not change places stands in order. -/
def draws (E : Env) (det : FuncId → Option Dt) : Drw := fun nt ops s h kl K =>
  vcDraw E det nt (len h + len ops) (ops.map (·.dst)) ops [] s h [] fun s h tr => Chk (fun _ => okDraw ops tr) (match settle tr s h kl with | some r => K r.1 r.2.1 r.2.2 | none => Bad 314)

theorem heap_same {w w' : World} {M : Nat → Prop} {β : Nat → Option Nat} {cp : Nat → Nat} {h : Hp} (hw : w'.heap = w.heap) (hh : HeapRel w M β cp h) : HeapRel w' M β cp h := by
  have hk : ∀ k, k < w.heap.size → ¬ M k → w'.heap[k]? = w.heap[k]? ∧ ¬ M k := fun k _ hM => ⟨by rw [hw], hM⟩
  exact ⟨hh.out, fun b o hb => (hh.obj b o hb).keep hk (fun _ _ => ⟨rfl, rfl⟩) id fun g _ => ⟨by rw [hw], id⟩, hh.inj, fun k hk => by rw [hw]; exact hh.dom k hk⟩

theorem draws_ok (hE : EnvOk P E) (hZ : Zl E) (hD : DetOk P det) (hm : P.follows .mixedOrders = true) : DrwOk P (draws E det) := by
  intro w0 M0 β0 cp0 h0 nt id ops s h kl a w K Q hv hst hQ
  refine wp_region_any hm ?_
  unfold draws at hv
  obtain ⟨tr, s', h', hr, hK⟩ := vcDraw_run _ _ _ _ _ (fun d y x h => by simp [fwdM] at h) hv
  simp only [List.nil_append] at hK
  cases hK with
  | mk hok hK =>
    have hok : okDraw ops.toList (tr.map fpOf) = true := hok
    unfold okDraw at hok
    split at hok
    · cases hok
    · rename_i bef hbef
      rw [len_eq, len_eq, Array.length_toList] at hr
      refine sim_any hE hZ hD hr hbef hok (fun a w hst => by
        split at hK
        · rename_i r hr; exact hQ _ _ _ a w hK (settle_st _ _ _ _ _ hr hst)
        · cases hK) _ _ _ _ ?_ ?_ (w0 := w0) (M0 := M0) (β0 := β0) (cp0 := cp0) (h0 := h0) (kl := kl)
      · unfold unl
        exact Nat.le_trans (List.length_filter_le _ _) (by simp)
      · obtain ⟨⟨M, β, cp, hh, ht, hak⟩, hnt, hdf⟩ := hst
        have hX : ∀ k, (Array.replicate ops.size false).getD k false = false := fun k => by
          rw [Array.getD_eq_getD_getElem?, Array.getElem?_replicate]; split <;> rfl
        have hW : ∀ {α : Type} (base : α) (W : Nat → Option α), lastW base W (fun k => (Array.replicate ops.size false).getD k false) ops.size = base := fun base W =>
          lastW_cut (m := 0) (Nat.zero_le _) fun k _ _ _ => hX k
        have hdead : ∀ (b : Nat) (o : AObj), (h ++ List.replicate ops.size AObj.dead)[b]? = some o → o.live = true → h[b]? = some o := by
          intro b o hb hl
          rcases Nat.lt_or_ge b h.length with h1 | h1
          · rwa [List.getElem?_append_left h1] at hb
          · rw [List.getElem?_append_right h1, List.getElem?_replicate] at hb
            split at hb
            · cases hb; cases hl
            · cases hb
        have hh2 := heap_same (w := w) (w' := { w with drawn := w.drawn + 1 }) rfl hh
        have hk : ∀ k, k < w.heap.size → ¬ M k → ({ w with drawn := w.drawn + 1 } : World).heap[k]? = w.heap[k]? ∧ ¬ M k := fun k _ hM => ⟨rfl, hM⟩
        refine ⟨by simp, fun j hj => (by rw [hX] at hj; cases hj), ⟨M, β, cp, s, h ++ List.replicate ops.size .dead, ⟨fun b hb => hh2.out b (by simp at hb; omega), fun b o hb => ?_, fun b b' o o' g hb hb' hl hl' => hh2.inj b b' o o' g (hdead b o hb hl) (hdead b' o' hb' hl') hl hl', hh2.dom⟩, fun t => (ht t).keep hk fun _ _ => ⟨rfl, rfl⟩, ⟨hak.keep, hak.bk, ⟨hak.ext.os, hak.ext.tape, hak.ext.output, hak.ext.size, hak.ext.block, hak.ext.sub, hak.ext.new⟩, fun g hg => ?_⟩, fun t => (hW _ _).symm, fun b => ?_, by simp, fun b hb => ?_⟩, hnt, hdf⟩
        · cases o with
          | dead => trivial
          | blk cs => exact hh2.obj b _ (hdead b _ hb rfl)
          | vec e sz n f => exact hh2.obj b _ (hdead b _ hb rfl)
        · obtain ⟨b, o, hb, hl, hg⟩ := hg
          exact hak.own g ⟨b, o, hdead b o hb hl, hl, hg⟩
        · rw [hW, nth_eq, nth_eq, List.getD_eq_getElem?_getD, List.getD_eq_getElem?_getD]
          rcases Nat.lt_or_ge b h.length with h1 | h1
          · rw [List.getElem?_append_left h1]
          · rw [List.getElem?_append_right h1, List.getElem?_eq_none h1, List.getElem?_replicate]
            split <;> rfl
        · refine .inl ?_
          rcases Nat.lt_or_ge b h.length with h1 | h1
          · exact h1
          · exact absurd (hh.out b h1) hb

end
end Go.Abs
