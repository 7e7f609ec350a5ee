/- What is to be proved of a piece of code is enough: heaps, kills, appends. -/
import Derived.Test.YtadjemhbfaonbaaAbsVcSound
set_option linter.all false
namespace Go.Abs
open Go
section
variable {P : Program} {E : Env} {w w' : World} {M M' : Nat → Prop} {β β' : Nat → Option Nat} {cp cp' : Nat → Nat} {h h' : Hp}

theorem leO_sound {nb b : Nat} (hb : b < nb) : ∀ (x y : AObj), ObjRel w M β cp b x → leO nb x y → ObjRel w M (cut nb β) cp b y
  | x, .dead, _, _ => trivial
  | .blk l, .blk m, hr, hl => by
    obtain ⟨g, cur, t, h1, h2, h3, h4, h5⟩ := hr
    exact ⟨g, cur, t, by simp [cut, hb, h1], h2, h3, leL_sound nb l m _ h4 hl, h5⟩
  | .vec e sz n f, .vec e' sz' m g, hr, hl => by
    simp only [leO] at hl
    split at hl
    · rename_i q1 q2
      have q1 := beq_iff.1 q1
      have q2 := beq_iff.1 q2
      subst q1 q2
      cases hl with
      | mk h1 h2 =>
        cases h1 with
        | mk h1 =>
          cases h2 with
          | mk h2 =>
            rcases hr with ⟨r1, r2⟩ | ⟨gg, cur, r1, r2, r3, r4, r5, r6, r7, r8, r9⟩
            · exact .inl ⟨by simp [cut, hb, r1], by rw [← h1]; exact r2⟩
            · have hg : ∀ i : Nat, i < n () → (g fun _ => i).length = sz ∧ ∀ (j : Nat) (x : AV), (g fun _ => i)[j]? = some x → RepC w M x (cur.getD (i * sz + j) undef) := by
                intro i hi
                cases h2 i hi with
                | mk h3 h4 =>
                  have hv : RepL w M β cp (f fun _ => i) ((List.range sz).map fun j => cur.getD (i * sz + j) undef) := ⟨by simp [r8 i hi], fun j x hj => by
                    have hjs : j < sz := by rw [← r8 i hi]; exact (List.getElem?_eq_some_iff.1 hj).1
                    have := r9 i j x hi hj
                    simpa [List.getD_eq_getElem?_getD, hjs] using Rep.c this⟩
                  have := leL_sound nb (f fun _ => i) (g fun _ => i) _ hv h3
                  refine ⟨by have := this.1; simp at this; omega, fun j x hj => ?_⟩
                  have hjs : j < sz := by
                    have h5 := this.1
                    have h6 := (List.getElem?_eq_some_iff.1 hj).1
                    simp at h5
                    omega
                  have h7 := closed_rep (this.2 j x hj) (closedL_get h4 hj)
                  simpa [List.getD_eq_getElem?_getD, hjs] using h7
              exact .inr ⟨gg, cur, by simp [cut, hb, r1], r2, r3, r4, by rw [← h1]; exact r5, by rw [← h1]; exact r6, r7, fun i hi => (hg i (by omega)).1, fun i j x hi hj => (hg i (by omega)).2 j x hj⟩
    · cases hl
  | .dead, .blk _, _, hl => by cases hl
  | .dead, .vec _ _ _ _, _, hl => by cases hl
  | .blk _, .vec _ _ _ _, _, hl => by cases hl
  | .vec _ _ _ _, .blk _, _, hl => by cases hl

/-- An object of which there is nothing. -/
def AObj.unborn : AObj → Prop
  | .dead => True
  | .vec _ _ n _ => n () = 0
  | .blk _ => False

theorem leHs_nil {nb : Nat} : ∀ {k : Hp}, leHs nb [] k → ∀ (b : Nat) (y : AObj), k[b]? = some y → y.unborn
  | [], _, b, y, hb => by simp at hb
  | .dead :: k, hl, b, y, hb => by
    cases b with
    | zero => simp at hb; subst hb; trivial
    | succ b => exact leHs_nil (k := k) hl b y (by simpa using hb)
  | .vec _ _ n _ :: k, hl, b, y, hb => by
    cases hl with
    | mk h1 h2 =>
      cases b with
      | zero => simp at hb; subst hb; cases h1 with | mk h1 => exact h1
      | succ b => exact leHs_nil (k := k) h2 b y (by simpa using hb)
  | .blk _ :: k, hl, b, y, hb => by cases hl

theorem leHs_get {nb : Nat} : ∀ {h k : Hp}, leHs nb h k → ∀ (b : Nat) (y : AObj), k[b]? = some y → (∃ x, h[b]? = some x ∧ leO nb x y) ∨ (h.length ≤ b ∧ y.unborn)
  | _, [], _ => fun b y hb => by simp at hb
  | x :: h, y :: k, hl => by
    cases hl with
    | mk h1 h2 =>
      have ih := leHs_get h2
      refine fun b z hb => ?_
      cases b with
      | zero => simp at hb; subst hb; exact .inl ⟨x, rfl, h1⟩
      | succ b => simpa using ih b z (by simpa using hb)
  | [], y :: k, hl => fun b z hb => .inr ⟨Nat.zero_le _, leHs_nil hl b z hb⟩

theorem leO_live {nb : Nat} {x y : AObj} (hl : leO nb x y) (hy : y.live = true) : x.live = true := by
  cases y with
  | dead => cases hy
  | blk l => cases x <;> first | rfl | cases hl
  | vec e sz n f => cases x <;> first | rfl | cases hl

theorem leH_sound {k : Hp} (hr : HeapRel w M β cp h) (hl : leH h k) : HeapRel w M (cut k.length β) cp k := by
  unfold leH at hl
  rw [len_eq] at hl
  have h2 := leHs_get hl
  refine ⟨fun b hb => by simp [cut]; omega, fun b y hb => ?_, fun b b' o o' g hb hb' hlo hlo' hg hg' => ?_, hr.dom⟩
  · rcases h2 b y hb with ⟨x, hx, hxy⟩ | ⟨hlen, hu⟩
    · exact leO_sound (List.getElem?_eq_some_iff.1 hb).1 x y (hr.obj b x hx) hxy
    · cases y with
      | dead => trivial
      | blk _ => cases hu
      | vec e sz n f => exact .inl ⟨by simp only [cut]; split <;> simp [hr.out b hlen], hu⟩
  · have c1 : β b = some g := by simp only [cut] at hg; split at hg <;> simp_all
    have c2 : β b' = some g := by simp only [cut] at hg'; split at hg' <;> simp_all
    rcases h2 b o hb with ⟨x, hx, hxy⟩ | ⟨hlen, hu⟩
    · rcases h2 b' o' hb' with ⟨x', hx', hxy'⟩ | ⟨hlen, hu⟩
      · exact hr.inj b b' x x' g hx hx' (leO_live hxy hlo) (leO_live hxy' hlo') c1 c2
      · rw [hr.out b' hlen] at c2; cases c2
    · rw [hr.out b hlen] at c1; cases c1

theorem leT_sound {nb : Nat} {s : Tm} {g : Nat → Value} (hs : ∀ t, Rep w M β cp (lk s t) (g t)) : ∀ (s' : Tm), leTs nb s s' → ∀ t, Rep w M (cut nb β) cp (lk s' t) (g t)
  | [], _, t => .c (.any _)
  | (i, v) :: r, hl, t => by
    cases hl with
    | mk h1 h2 =>
      simp only [lk]
      split
      · rename_i q
        have q := beq_iff.1 q
        subst q
        exact le_sound nb _ _ _ (hs i) h1
      · exact leT_sound hs r h2 t

/-- What a call or a piece of code leaves; kl: the objects of which the caller knows nothing any more. -/
structure AK (w0 : World) (M0 : Nat → Prop) (β0 : Nat → Option Nat) (cp0 : Nat → Nat) (h0 : Hp) (w : World) (M : Nat → Prop) (β : Nat → Option Nat) (cp : Nat → Nat) (h : Hp) (kl : List Nat) : Prop where
  keep : ∀ k, k < w0.heap.size → ¬ M0 k → w.heap[k]? = w0.heap[k]? ∧ ¬ M k
  bk : ∀ b, memN b kl = false → β0 b ≠ none → β b = β0 b ∧ cp b = cp0 b
  ext : Ext w0 M0 (Blks β0 h0) w M
  own : ∀ g, Blks β h g → Blks β0 h0 g ∨ w0.heap.size ≤ g

theorem AK.refl : AK w M β cp h w M β cp h [] := ⟨fun _ _ hM => ⟨rfl, hM⟩, fun _ _ _ => ⟨rfl, rfl⟩, Ext.refl _ _ _, fun _ hg => .inl hg⟩
theorem AK.of_after (ha : After w M β cp h w' M' β' cp' h') : AK w M β cp h w' M' β' cp' h' [] := ⟨ha.keep, fun b _ hb => ha.bk b hb, ha.ext, ha.own⟩

theorem memN_cons {c b : Nat} {r : List Nat} : memN c (b :: r) = (decide (b = c) || memN c r) := by
  simp only [memN]
  split
  · rename_i q; simp [beq_iff.1 q]
  · rename_i q
    have : ¬ b = c := fun e => by rw [beq_iff.2 e] at q; cases q
    simp [this]
theorem memN_append {b : Nat} : ∀ (l m : List Nat), memN b (l ++ m) = (memN b l || memN b m)
  | [], m => by simp [memN]
  | x :: l, m => by
    simp only [List.cons_append, memN]
    split
    · simp
    · exact memN_append l m
theorem subN_mem {b : Nat} : ∀ {l m : List Nat}, subN l m = true → memN b l = true → memN b m = true
  | [], m, _, h => by simp [memN] at h
  | x :: l, m, hs, h => by
    simp only [subN] at hs
    split at hs
    · rename_i q
      simp only [memN] at h
      split at h
      · rename_i q2
        have q2 := beq_iff.1 q2
        subst q2
        exact q
      · exact subN_mem hs h
    · cases hs

theorem AK.trans {w2 : World} {M2 : Nat → Prop} {β2 : Nat → Option Nat} {cp2 : Nat → Nat} {h2 : Hp} {kl kl' : List Nat} (ha : AK w M β cp h w' M' β' cp' h' kl) (hb : AK w' M' β' cp' h' w2 M2 β2 cp2 h2 kl') : AK w M β cp h w2 M2 β2 cp2 h2 (kl' ++ kl) where
  keep k hk hM := by
    have h1 := ha.keep k hk hM
    have h2 := hb.keep k (Nat.lt_of_lt_of_le hk ha.ext.size) h1.2
    exact ⟨h2.1.trans h1.1, h2.2⟩
  bk b hbk h0 := by
    rw [memN_append, Bool.or_eq_false_iff] at hbk
    have h1 := ha.bk b hbk.2 h0
    have h2 := hb.bk b hbk.1 (by rw [h1.1]; exact h0)
    exact ⟨h2.1.trans h1.1, h2.2.trans h1.2⟩
  ext := ha.ext.trans hb.ext (fun g hg => ha.own g hg)
  own g hg := (hb.own g hg).elim (ha.own g) fun h1 => .inr (Nat.le_trans ha.ext.size h1)

theorem AK.mono {kl kl' : List Nat} (ha : AK w M β cp h w' M' β' cp' h' kl) (hs : ∀ b, memN b kl = true → memN b kl' = true) : AK w M β cp h w' M' β' cp' h' kl' :=
  ⟨ha.keep, fun b hb h0 => ha.bk b (by cases hm : memN b kl with | false => rfl | true => rw [hs b hm] at hb; cases hb) h0, ha.ext, ha.own⟩

def killAll : List Nat → AV → AV
  | [], x => x
  | b :: r, x => killAll r (x.kill b)

mutual
theorem kill_rep (b : Nat) (hβ : ∀ c, c ≠ b → β' c = β c ∧ cp' c = cp c) : ∀ (x : AV) (v : Value), Rep w M β cp x v → Rep w M β' cp' (x.kill b) v
  | .any, v, _ => .c (.any v)
  | .bc p, v, hr => by cases hr with | c h => exact .c h
  | .b p, v, hr => by cases hr with | c h => exact .c h
  | .i k n, v, hr => by cases hr with | c h => exact .c h
  | .s x, v, hr => by cases hr with | c h => exact .c h
  | .nil, v, hr => by cases hr with | c h => exact .c h
  | .con x, v, hr => by cases hr with | c h => exact .c h
  | .sl sz n f, v, hr => by cases hr with | c h => exact .c h
  | .rp l, v, hr => by cases hr with | c h => exact .c h
  | .agg l, v, hr => by
    obtain ⟨cs, rfl, hL, ho⟩ := rep_agg hr
    have := killL_rep b hβ l _ hL
    exact .agg _ cs (by simpa using this.1) (fun v hv => ho v (by simpa using hv)) fun j x hj => by rw [getD_arr]; exact this.2 j x hj
  | .tup l, v, hr => by
    obtain ⟨cs, rfl, hL⟩ := rep_tup hr
    have := killL_rep b hβ l _ hL
    exact .tup _ cs (by simpa using this.1) fun j x hj => by rw [getD_arr]; exact this.2 j x hj
  | .ptr c o, v, hr => by
    simp only [AV.kill]
    split
    · exact .c (.any v)
    · rename_i q
      have hc : c ≠ b := fun e => by rw [beq_iff.2 e] at q; cases q
      obtain ⟨g, hg, rfl⟩ := rep_ptr hr
      exact .ptr c o g (by rw [(hβ c hc).1]; exact hg)
  | .ept c sz i o, v, hr => by
    simp only [AV.kill]
    split
    · exact .c (.any v)
    · rename_i q
      have hc : c ≠ b := fun e => by rw [beq_iff.2 e] at q; cases q
      obtain ⟨g, hg, rfl⟩ := rep_ept hr
      exact .ept c sz i o g (by rw [(hβ c hc).1]; exact hg)
  | .own c n, v, hr => by
    simp only [AV.kill]
    split
    · exact .c (.any v)
    · rename_i q
      have hc : c ≠ b := fun e => by rw [beq_iff.2 e] at q; cases q
      rcases rep_own hr with ⟨h0, rfl⟩ | ⟨g, hg, hn, rfl⟩
      · exact .own0 c n h0
      · rw [← (hβ c hc).2]
        exact .own c n g (by rw [(hβ c hc).1]; exact hg) (by rw [(hβ c hc).2]; exact hn)
  | .nn c n, v, hr => by
    simp only [AV.kill]
    split
    · exact .c (.any v)
    · rename_i q
      have hc : c ≠ b := fun e => by rw [beq_iff.2 e] at q; cases q
      obtain ⟨g, hg, hn, rfl⟩ := rep_nn hr
      rw [← (hβ c hc).2]
      exact .nn c n g (by rw [(hβ c hc).1]; exact hg) (by rw [(hβ c hc).2]; exact hn)
  | .vw c sz p n, v, hr => by
    simp only [AV.kill]
    split
    · exact .c (.any v)
    · rename_i q
      have hc : c ≠ b := fun e => by rw [beq_iff.2 e] at q; cases q
      rcases rep_vw hr with ⟨h0, a, c', hc', rfl⟩ | ⟨g, hg, hn, rfl⟩
      · exact .vw0 c sz p n a c' h0 hc'
      · rw [← (hβ c hc).2]
        exact .vw c sz p n g (by rw [(hβ c hc).1]; exact hg) (by rw [(hβ c hc).2]; exact hn)
  | .fn f l, v, hr => .c (.any v)
  | .ite c x y, v, hr => by
    have key : (c () = true → Rep w M β cp x v) ∧ (c () = false → Rep w M β cp y v) := by
      cases hr with
      | c h => cases h with | ite _ _ _ _ h1 h2 => exact ⟨fun h => .c (h1 h), fun h => .c (h2 h)⟩
      | ite _ _ _ _ h1 h2 => exact ⟨h1, h2⟩
    exact .ite c _ _ v (fun hc => kill_rep b hβ x v (key.1 hc)) (fun hc => kill_rep b hβ y v (key.2 hc))
theorem killL_rep (b : Nat) (hβ : ∀ c, c ≠ b → β' c = β c ∧ cp' c = cp c) : ∀ (l : List AV) (vs : List Value), RepL w M β cp l vs → RepL w M β' cp' (killL b l) vs
  | [], vs, hr => ⟨hr.1, fun j x hj => by simp [killL] at hj⟩
  | x :: l, vs, hr => by
    match vs, hr with
    | [], hr => exact absurd hr.1 (by simp)
    | u :: vs, hr =>
      have hx := kill_rep b hβ x u (by have := hr.2 0 x rfl; simpa using this)
      have := killL_rep b hβ l vs ⟨by have := hr.1; simp at this; omega, fun j x hj => by have := hr.2 (j + 1) x (by simpa using hj); simpa using this⟩
      refine ⟨by have := this.1; simp [killL]; omega, fun j z hj => ?_⟩
      cases j with
      | zero => simp [killL] at hj; subst hj; simpa using hx
      | succ j => have := this.2 j z (by simpa [killL] using hj); simpa using this
end

theorem killAll_rep : ∀ (kl : List Nat) (β : Nat → Option Nat) (cp : Nat → Nat) (x : AV) (v : Value), Rep w M β cp x v →
    Rep w M (fun c => if memN c kl = true then β' c else β c) (fun c => if memN c kl = true then cp' c else cp c) (killAll kl x) v
  | [], β, cp, x, v, hr => by simpa [memN, killAll] using hr
  | b :: r, β, cp, x, v, hr => by
    have h1 := kill_rep (β' := fun c => if c = b then β' c else β c) (cp' := fun c => if c = b then cp' c else cp c) b (fun c hc => by simp [hc]) x v hr
    have h2 := killAll_rep r _ _ (x.kill b) v h1
    have e1 : (fun c => if memN c (b :: r) = true then β' c else β c) = fun c => if memN c r = true then β' c else if c = b then β' c else β c := by
      funext c
      rw [memN_cons]
      by_cases hc : b = c
      · subst hc; simp
      · have hc' : ¬ c = b := fun e => hc e.symm
        simp [hc, hc']
    have e2 : (fun c => if memN c (b :: r) = true then cp' c else cp c) = fun c => if memN c r = true then cp' c else if c = b then cp' c else cp c := by
      funext c
      rw [memN_cons]
      by_cases hc : b = c
      · subst hc; simp
      · have hc' : ¬ c = b := fun e => hc e.symm
        simp [hc, hc']
    rw [e1, e2]
    exact h2

/-- A reading behind a call. -/
theorem AK.rep {kl : List Nat} (ha : AK w M β cp h w' M' β' cp' h' kl) {x : AV} {v : Value} (hr : Rep w M β cp x v) : Rep w' M' β' cp' (killAll kl x) v := by
  have := killAll_rep (β' := β') (cp' := cp') kl β cp x v hr
  refine this.keep ha.keep fun b hb => ?_
  split
  · exact ⟨rfl, rfl⟩
  · rename_i q
    rw [if_neg q] at hb
    exact ha.bk b (by simpa using q) hb

theorem lk_killTm : ∀ (kl : List Nat) (s : Tm) (t : Nat), lk (killTm kl s) t = killAll kl (lk s t)
  | [], s, t => rfl
  | b :: r, s, t => by
    simp only [killTm, killAll]
    rw [lk_killTm r]
    congr 1
    induction s with
    | nil => rfl
    | cons p s ih =>
      simp only [List.map_cons, lk]
      split
      · rfl
      · exact ih

end
end Go.Abs
