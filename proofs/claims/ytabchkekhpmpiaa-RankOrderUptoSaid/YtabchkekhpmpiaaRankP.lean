/- The plain laws of orders of tasks. -/
import Derived.Test.YtabchkekhpmpiaaRank4
import Derived.Test.YtabchkekhpmpiaaReplyP
set_option linter.all false
namespace Go.Proofs.Ytabchkekhpmpiaa
open Go Go.Abs

theorem perm_of_sub : ∀ {o r : List Int}, o.Nodup → (∀ x ∈ o, x ∈ r) → r.length ≤ o.length → o.Perm r
  | [], r, _, _, h => by
    have : r = [] := List.eq_nil_of_length_eq_zero (by simpa using h)
    subst this; exact List.Perm.refl _
  | a :: o, r, hn, hs, hl => by
    rw [List.nodup_cons] at hn
    have ha : a ∈ r := hs a (by simp)
    have hp : r.Perm (a :: r.erase a) := List.perm_cons_erase ha
    have hle := hp.length_eq
    simp only [List.length_cons] at hle hl
    refine List.Perm.trans (List.Perm.cons a (perm_of_sub hn.2 (fun x hx => ?_) (by omega))) hp.symm
    have hxa : x ≠ a := fun e => hn.1 (e ▸ hx)
    exact (List.mem_erase_of_ne hxa).2 (hs x (by simp [hx]))
theorem sub_perm : ∀ {o r : List Int}, o.Nodup → (∀ x ∈ o, x ∈ r) → ∃ w, r.Perm (o ++ w)
  | [], r, _, _ => ⟨r, List.Perm.refl _⟩
  | a :: o, r, hn, hs => by
    rw [List.nodup_cons] at hn
    have hp : r.Perm (a :: r.erase a) := List.perm_cons_erase (hs a (by simp))
    obtain ⟨w, hw⟩ := sub_perm (o := o) (r := r.erase a) hn.2 (fun x hx => by
      have hxa : x ≠ a := fun e => hn.1 (e ▸ hx)
      exact (List.mem_erase_of_ne hxa).2 (hs x (by simp [hx])))
    exact ⟨w, hp.trans (hw.cons a)⟩
theorem rngL_nodup (n : Nat) : (rngL n).Nodup := by
  unfold rngL lst
  rw [List.Nodup, List.pairwise_map]
  exact (List.nodup_range (n := n)).imp fun h e => h (by omega)
theorem mem_rngL {n : Nat} {x : Int} (h0 : 0 ≤ x) (h1 : x.toNat < n) : x ∈ rngL n := by
  unfold rngL lst
  rw [List.mem_map]
  exact ⟨x.toNat, List.mem_range.2 h1, by omega⟩
structure IsOrd (l : List Task) (o : List Int) : Prop where
  h16 : l.length ≤ 16
  ok : l.all okT = true
  len : o.length = l.length
  rng : ∀ x ∈ o, 0 ≤ x ∧ x.toNat < l.length
  nd : o.Nodup
def tasksOf (l : List Task) (o : List Int) : List Task := o.map fun x => l.getD x.toNat Dat.d0
theorem ofRk_some {l : List Task} : ∀ {o : List Int} {seen : List Bool} {out : List Task}, seen.length = l.length → (∀ x ∈ o, 0 ≤ x ∧ x.toNat < l.length) → o.Nodup → (∀ x ∈ o, seen.getD x.toNat false = false) → ofRk l o seen out = some (out ++ tasksOf l o)
  | [], _, out, _, _, _, _ => by rw [ofRk]; simp [tasksOf]
  | i :: r, seen, out, hs, hr, hn, hf => by
    rw [List.nodup_cons] at hn
    have hi := hr i (by simp)
    have hfi := hf i (by simp)
    rw [ofRk, if_neg (by omega), if_neg (by rw [hfi]; decide), ofRk_some (by rw [List.length_set]; exact hs) (fun x hx => hr x (by simp [hx])) hn.2 (fun x hx => ?_)]
    · simp [tasksOf]
    · have hx1 := hr x (by simp [hx])
      rw [gd_set _ _ _ _ _ (by omega)]
      have hne : ¬ x.toNat = i.toNat := fun e => hn.1 ((show x = i by omega) ▸ hx)
      rw [decide_eq_false hne, cond_false]
      exact hf x (by simp [hx])
theorem ofRk_is {l : List Task} : ∀ {o : List Int} {seen : List Bool} {out m : List Task}, seen.length = l.length → ofRk l o seen out = some m → (∀ x ∈ o, 0 ≤ x ∧ x.toNat < l.length) ∧ o.Nodup ∧ (∀ x ∈ o, seen.getD x.toNat false = false)
  | [], _, out, m, _, _ => ⟨by simp, List.Pairwise.nil, by simp⟩
  | i :: r, seen, out, m, hs, h => by
    rw [ofRk] at h
    split at h
    · cases h
    · rename_i hi
      split at h
      · cases h
      · rename_i hse
        obtain ⟨a, b, c⟩ := ofRk_is (by rw [List.length_set]; exact hs) h
        have hil : i.toNat < l.length := by omega
        have hmem : ∀ x ∈ r, x ≠ i ∧ seen.getD x.toNat false = false := fun x hx => by
          have h1 := c x hx
          have h2 := a x hx
          rw [gd_set _ _ _ _ _ (by omega)] at h1
          by_cases e : x.toNat = i.toNat
          · rw [decide_eq_true e, cond_true] at h1; cases h1
          · rw [decide_eq_false e, cond_false] at h1
            exact ⟨fun e2 => e (by rw [e2]), h1⟩
        refine ⟨fun x hx => ?_, List.nodup_cons.2 ⟨fun hx => (hmem i hx).1 rfl, b⟩, fun x hx => ?_⟩
        · rcases List.mem_cons.1 hx with rfl | hx
          · omega
          · exact a x hx
        · rcases List.mem_cons.1 hx with rfl | hx
          · rw [← Bool.not_eq_true]; exact hse
          · exact (hmem x hx).2
theorem ord_go {l : List Task} {o : List Int} (h : IsOrd l o) : ordV l o = (tasksOf l o, 0) := by
  rw [ordV, if_pos (tchk_iff.2 ⟨h.h16, h.ok⟩), if_pos h.len, ofRk_some (noB_len _) h.rng h.nd (fun x _ => noB_get)]
  rfl
theorem ord_is {l : List Task} {o : List Int} (h : (ordV l o).2 = 0) : IsOrd l o := by
  unfold ordV at h
  split at h
  · rename_i h1
    have hT := tchk_iff.1 h1
    split at h
    · rename_i h2
      split at h
      · rename_i m hm
        obtain ⟨a, b, _⟩ := ofRk_is (noB_len _) hm
        exact ⟨hT.1, hT.2, h2, a, b⟩
      · cases h
    · cases h
  · rename_i h1; exact absurd h h1
theorem tasksOf_get {l : List Task} {o : List Int} {q : Nat} (hq : q < o.length) : (tasksOf l o).getD q Dat.d0 = l.getD (o.getD q 0).toNat Dat.d0 := by
  unfold tasksOf
  rw [List.getD_eq_getElem?_getD, List.getElem?_map, List.getElem?_eq_getElem hq, List.getD_eq_getElem?_getD (l := o), List.getElem?_eq_getElem hq]; rfl
theorem tasksOf_len (l : List Task) (o : List Int) : (tasksOf l o).length = o.length := by simp [tasksOf]
theorem tasksOf_take {l : List Task} {o : List Int} (q : Nat) : (tasksOf l o).take q = tasksOf l (o.take q) := by unfold tasksOf; rw [List.map_take]
theorem tasksOf_ok {l : List Task} {o : List Int} (ho : l.all okT = true) (hr : ∀ x ∈ o, 0 ≤ x ∧ x.toNat < l.length) : (tasksOf l o).all okT = true := by
  rw [List.all_eq_true]
  intro t ht
  unfold tasksOf at ht
  rw [List.mem_map] at ht
  obtain ⟨x, hx, rfl⟩ := ht
  exact tk_get (hr x hx).2 ho
/-- What a task needs is there in time, whatever is ahead of it. -/
def OkT (s : Set) (A : List Task) (t : Task) : Prop := ∃ n, 1 ≤ n ∧ n ≤ t.due ∧ t.long + needS n A ≤ leastV s n
theorem repV_iff {m : List Task} {q : Nat} {s : Set} (hR : Right s) (ho : m.all okT = true) (hq : q < m.length) : (repV m (q : Int) s).2 = 0 ↔ OkT s (m.take q) (m.getD q Dat.d0) := by
  have h := repV_spec (p := (q : Int)) hR ho (by omega) (by omega)
  rw [Int.toNat_natCast] at h
  constructor
  · intro h0
    rcases h with ⟨r, e, r1, r2, r3, _⟩ | ⟨e, _⟩
    · exact ⟨r, r1, r2, r3⟩
    · rw [e] at h0; exact absurd h0 (by decide)
  · rintro ⟨n, n1, n2, n3⟩
    rcases h with ⟨r, e, _⟩ | ⟨e, h2⟩
    · rw [e]
    · have := h2 n n1 n2
      have e2 : needV m (q : Int) n = (m.getD q Dat.d0).long + needS n (m.take q) := by unfold needV; rw [Int.toNat_natCast]
      omega
theorem repV_nz {m : List Task} {q : Nat} {s : Set} (hR : Right s) (ho : m.all okT = true) (hq : q < m.length) : (repV m (q : Int) s).1 = 0 ↔ ¬ (repV m (q : Int) s).2 = 0 := by
  rcases repV_spec (p := (q : Int)) hR ho (by omega) (by omega) with ⟨r, e, r1, _⟩ | ⟨e, _⟩
  · rw [e]; constructor
    · intro h; have h : r = 0 := h; omega
    · intro h; exact absurd rfl h
  · rw [e]; constructor
    · intro _; decide
    · intro _; rfl
structure GoodO (l : List Task) (o : List Int) (s : Set) : Prop where
  ord : IsOrd l o
  rt : Right s
  ok : ∀ q, q < o.length → OkT s (tasksOf l (o.take q)) (l.getD (o.getD q 0).toNat Dat.d0)
theorem good_all {l : List Task} {o : List Int} {s : Set} (h : IsOrd l o) (hR : Right s) : (0 : Int) ∈ tabL (tasksOf l o) s ↔ ¬ ∀ q, q < o.length → OkT s (tasksOf l (o.take q)) (l.getD (o.getD q 0).toNat Dat.d0) := by
  have hok := tasksOf_ok h.ok h.rng
  have key : ∀ q, q < o.length → ((repV (tasksOf l o) (q : Int) s).2 = 0 ↔ OkT s (tasksOf l (o.take q)) (l.getD (o.getD q 0).toNat Dat.d0)) := fun q hq => by
    rw [repV_iff hR hok (by rw [tasksOf_len]; exact hq), tasksOf_take, tasksOf_get hq]
  constructor
  · intro h0 hall
    unfold tabL lst at h0
    rw [List.mem_map] at h0
    obtain ⟨q, hq, e⟩ := h0
    rw [List.mem_range, tasksOf_len] at hq
    exact (repV_nz hR hok (by rw [tasksOf_len]; exact hq)).1 e ((key q hq).2 (hall q hq))
  · intro hn
    apply Classical.byContradiction
    intro h0
    apply hn
    intro q hq
    apply Classical.byContradiction
    intro hc
    apply h0
    unfold tabL lst
    rw [List.mem_map]
    exact ⟨q, by rw [List.mem_range, tasksOf_len]; exact hq, (repV_nz hR hok (by rw [tasksOf_len]; exact hq)).2 fun e => hc ((key q hq).1 e)⟩
theorem good_go {l : List Task} {o : List Int} {s : Set} (h : GoodO l o s) : goodV l o s = (true, 0) := by
  have hok := tasksOf_ok h.ord.ok h.ord.rng
  have hb : bothS (tasksOf l o) s = 0 := both_iff.2 ⟨tchk_iff.2 ⟨by rw [tasksOf_len, h.ord.len]; exact h.ord.h16, hok⟩, check_iff.2 h.rt⟩
  have ht : tabV (tasksOf l o) s = (tabL (tasksOf l o) s, 0) := by rw [tabV, if_pos hb]
  rw [goodV, ord_go h.ord, if_pos rfl, ht, if_pos rfl, decide_eq_false (fun q => (good_all h.ord h.rt).1 q h.ok)]
  rfl
theorem good_is {l : List Task} {o : List Int} {s : Set} (h : (goodV l o s).2 = 0) : IsOrd l o ∧ Right s ∧ ((goodV l o s).1 = true → GoodO l o s) := by
  unfold goodV at *
  split at h
  · rename_i h1
    have ho := ord_is h1
    rw [if_pos h1]
    split at h
    · rename_i h2
      rw [if_pos h2]
      rw [ord_go ho] at *
      have hb : bothS (tasksOf l o) s = 0 := by
        unfold tabV at h2
        split at h2
        · assumption
        · rename_i h3; exact absurd h2 h3
      have hR := check_iff.1 (both_iff.1 hb).2
      have ht : tabV (tasksOf l o) s = (tabL (tasksOf l o) s, 0) := by rw [tabV, if_pos hb]
      refine ⟨ho, hR, fun h3 => ⟨ho, hR, ?_⟩⟩
      rw [ht] at h3
      have h3 : (!decide ((0 : Int) ∈ tabL (tasksOf l o) s)) = true := h3
      have h4 : ¬ (0 : Int) ∈ tabL (tasksOf l o) s := by simpa using h3
      apply Classical.byContradiction
      intro hc
      exact h4 ((good_all ho hR).2 hc)
    · rename_i h2; exact absurd h h2
  · rename_i h1; exact absurd h h1
theorem needS_app {n : Int} {a b : List Task} : needS n (a ++ b) = needS n a + needS n b := by
  induction a with
  | nil => simp [needS]
  | cons x r ih => rw [List.cons_append, needS, needS, ih]; omega
theorem tasksOf_app {l : List Task} {a b : List Int} : tasksOf l (a ++ b) = tasksOf l a ++ tasksOf l b := by simp [tasksOf]
theorem tasksOf_perm {l : List Task} {a b : List Int} (h : a.Perm b) : (tasksOf l a).Perm (tasksOf l b) := h.map _
/-- Fewer ahead need no more. -/
theorem needS_ids {l : List Task} {n : Int} (h0 : 1 ≤ n) {a b : List Int} (ho : l.all okT = true) (hn : a.Nodup) (hs : ∀ x ∈ a, x ∈ b) (hr : ∀ x ∈ b, 0 ≤ x ∧ x.toNat < l.length) : needS n (tasksOf l a) ≤ needS n (tasksOf l b) := by
  obtain ⟨w, hw⟩ := sub_perm hn hs
  rw [needS_perm (tasksOf_perm hw), tasksOf_app, needS_app]
  have := needS_nn h0 (tasksOf_ok (o := w) ho fun x hx => hr x (hw.mem_iff.2 (by simp [hx])))
  omega
/-- Of some tasks one stands behind all others in an order. -/
theorem last_of {o : List Int} : ∀ {S : List Int}, S ≠ [] → (∀ x ∈ S, x ∈ o) → ∃ q, q < o.length ∧ o.getD q 0 ∈ S ∧ ∀ x ∈ S, x = o.getD q 0 ∨ x ∈ o.take q := by
  intro S hS hs
  have key : ∀ k, k ≤ o.length → (∀ x ∈ S, x ∈ o.take k) → ∃ q, q < o.length ∧ o.getD q 0 ∈ S ∧ ∀ x ∈ S, x = o.getD q 0 ∨ x ∈ o.take q := by
    intro k
    induction k with
    | zero =>
      intro _ h
      cases S with
      | nil => exact absurd rfl hS
      | cons x r => exact absurd (h x (by simp)) (by simp)
    | succ k ih =>
      intro hk h
      have ht : o.take (k + 1) = o.take k ++ [o.getD k 0] := take_snoc 0 (by omega)
      by_cases hm : o.getD k 0 ∈ S
      · refine ⟨k, by omega, hm, fun x hx => ?_⟩
        have := h x hx
        rw [ht] at this
        rcases List.mem_append.1 this with h1 | h1
        · exact .inr h1
        · exact .inl (by simpa using h1)
      · refine ih (by omega) fun x hx => ?_
        have := h x hx
        rw [ht] at this
        rcases List.mem_append.1 this with h1 | h1
        · exact h1
        · exact absurd (by rw [← show x = o.getD k 0 by simpa using h1]; exact hx) hm
  exact key o.length (Nat.le_refl _) (by rw [List.take_length]; exact hs)
theorem ord_mem {l : List Task} {o : List Int} (h : IsOrd l o) {x : Int} (h0 : 0 ≤ x) (h1 : x.toNat < l.length) : x ∈ o :=
  ((perm_of_sub h.nd (fun y hy => mem_rngL (h.rng y hy).1 (h.rng y hy).2) (by rw [rngL_len, h.len]; exact Nat.le_refl _)).mem_iff).2 (mem_rngL h0 h1)
theorem gd_memI {o : List Int} {q : Nat} (h : q < o.length) : o.getD q 0 ∈ o := by
  rw [List.getD_eq_getElem?_getD, List.getElem?_eq_getElem h]; exact List.getElem_mem h
theorem nd_notin {o : List Int} (hn : o.Nodup) {q : Nat} (h : q < o.length) : o.getD q 0 ∉ o.take q := by
  intro hm
  obtain ⟨i, hi, e⟩ := List.getElem_of_mem hm
  rw [List.length_take] at hi
  rw [List.getElem_take] at e
  have := List.pairwise_iff_getElem.1 hn i q (by omega) h (by omega)
  rw [List.getD_eq_getElem?_getD, List.getElem?_eq_getElem h] at e
  exact this e
/-- AUDSLEY: a task for the last place of a set. -/
theorem good_last {l : List Task} {o : List Int} {s : Set} (h : GoodO l o s) {S : List Int} (hS : S ≠ []) (hn : S.Nodup) (hr : ∀ x ∈ S, 0 ≤ x ∧ x.toNat < l.length) : ∃ j ∈ S, OkT s (tasksOf l (S.erase j)) (l.getD j.toNat Dat.d0) := by
  obtain ⟨q, hq, hm, hall⟩ := last_of hS fun x hx => ord_mem h.ord (hr x hx).1 (hr x hx).2
  refine ⟨_, hm, ?_⟩
  obtain ⟨n, n1, n2, n3⟩ := h.ok q hq
  refine ⟨n, n1, n2, ?_⟩
  have := needS_ids n1 h.ord.ok (a := S.erase (o.getD q 0)) (b := o.take q) (hn.erase _) (fun x hx => by
    have hx1 := List.mem_of_mem_erase hx
    rcases hall x hx1 with e | e
    · subst e; exact absurd hx (hn.not_mem_erase)
    · exact e) fun x hx => h.ord.rng x (List.mem_of_mem_take hx)
  omega
theorem quo_one {n e : Int} (h1 : 1 ≤ n) (h2 : n ≤ e) : (n + e - 1).tdiv e = 1 := by
  rw [Int.tdiv_eq_ediv_of_nonneg (by omega), show n + e - 1 = (n - 1) + 1 * e by omega, Int.add_mul_ediv_right _ _ (by omega), Int.ediv_eq_zero_of_lt (by omega) (by omega)]
  rfl
theorem quo_ge {n e : Int} (h1 : 1 ≤ n) (h2 : 1 ≤ e) : 1 ≤ (n + e - 1).tdiv e := by
  rw [Int.tdiv_eq_ediv_of_nonneg (by omega)]
  have : 1 * e ≤ n + e - 1 := by omega
  exact Int.le_ediv_of_mul_le (by omega) this
/-- LEUNG, WHITEHEAD: an order by what is due is good if any is. -/
theorem due_good {l : List Task} {o a : List Int} {s : Set} (h : GoodO l o s) (ha : IsOrd l a) (hd : a.Pairwise fun x y => (l.getD x.toNat Dat.d0).due ≤ (l.getD y.toNat Dat.d0).due) : GoodO l a s := by
  refine ⟨ha, h.rt, fun q hq => ?_⟩
  -- the set: what is ahead, and the task itself
  have ht : a.take (q + 1) = a.take q ++ [a.getD q 0] := take_snoc 0 hq
  have hnd : (a.take (q + 1)).Nodup := ha.nd.sublist (List.take_sublist _ _)
  have hrng : ∀ x ∈ a.take (q + 1), 0 ≤ x ∧ x.toNat < l.length := fun x hx => ha.rng x (List.mem_of_mem_take hx)
  have hdue : ∀ x ∈ a.take (q + 1), (l.getD x.toNat Dat.d0).due ≤ (l.getD (a.getD q 0).toNat Dat.d0).due := fun x hx => by
    rw [ht] at hx
    rcases List.mem_append.1 hx with hx | hx
    · obtain ⟨i, hi, e⟩ := List.getElem_of_mem hx
      rw [List.length_take] at hi
      rw [List.getElem_take] at e
      have := List.pairwise_iff_getElem.1 hd i q (by omega) hq (by omega)
      rw [e] at this
      rw [List.getD_eq_getElem?_getD (l := a), List.getElem?_eq_getElem hq]
      exact this
    · have : x = a.getD q 0 := by simpa using hx
      rw [this]; exact Int.le_refl _
  obtain ⟨j, hj, n, n1, n2, n3⟩ := good_last h (S := a.take (q + 1)) (by rw [ht]; simp) hnd hrng
  have hjo := okT_iff.1 (tk_get (hrng j hj).2 ha.ok)
  have hao := okT_iff.1 (tk_get (ha.rng _ (gd_memI hq)).2 ha.ok)
  refine ⟨n, n1, Int.le_trans n2 (hdue j hj), ?_⟩
  -- the sums over the set, without one and without the other
  have p1 : (a.take (q + 1)).Perm (j :: (a.take (q + 1)).erase j) := List.perm_cons_erase hj
  have e1 := needS_perm (n := n) (tasksOf_perm (l := l) p1)
  rw [ht, tasksOf_app, needS_app] at e1
  have e2 : needS n (tasksOf l [a.getD q 0]) = (n + (l.getD (a.getD q 0).toNat Dat.d0).every - 1).tdiv (l.getD (a.getD q 0).toNat Dat.d0).every * (l.getD (a.getD q 0).toNat Dat.d0).long := by simp [tasksOf, needS]
  have e3 : needS n (tasksOf l (j :: (a.take q ++ [a.getD q 0]).erase j)) = (n + (l.getD j.toNat Dat.d0).every - 1).tdiv (l.getD j.toNat Dat.d0).every * (l.getD j.toNat Dat.d0).long + needS n (tasksOf l ((a.take q ++ [a.getD q 0]).erase j)) := by rw [tasksOf, List.map_cons, needS]; rfl
  rw [ht] at n3
  rw [e2, e3, quo_one (e := (l.getD j.toNat Dat.d0).every) n1 (by omega), Int.one_mul] at e1
  have g := Int.mul_le_mul_of_nonneg_right (quo_ge n1 (show 1 ≤ (l.getD (a.getD q 0).toNat Dat.d0).every by omega)) (show 0 ≤ (l.getD (a.getD q 0).toNat Dat.d0).long by omega)
  rw [Int.one_mul] at g
  omega
theorem othL_eq {l : List Task} {i : Int} : ∀ {left : List Int}, othL l i left = tasksOf l (left.filter (· != i))
  | [] => rfl
  | j :: r => by
    rw [othL, othL_eq, List.filter_cons]
    by_cases h : j = i
    · subst h; simp
    · rw [if_neg h, if_pos (by simpa using h)]; rfl
theorem okF_iff {l : List Task} {s : Set} {left : List Int} {i : Int} (hR : Right s) (ho : l.all okT = true) (h16 : left.length ≤ 16) (hn : left.Nodup) (hr : ∀ x ∈ left, 0 ≤ x ∧ x.toNat < l.length) (hi : i ∈ left) : okF l s left i = true ↔ OkT s (tasksOf l (left.erase i)) (l.getD i.toNat Dat.d0) := by
  have e : othL l i left = tasksOf l (left.erase i) := by rw [othL_eq, hn.erase_eq_filter]
  have hle : (left.erase i).length = left.length - 1 := List.length_erase_of_mem hi
  have hpos : 0 < left.length := List.length_pos_of_mem hi
  have hok : (tasksOf l (left.erase i) ++ [l.getD i.toNat Dat.d0]).all okT = true := by
    rw [List.all_append, tasksOf_ok ho fun x hx => hr x (List.mem_of_mem_erase hx)]
    simp [tk_get (hr i hi).2 ho]
    exact tk_get (hr i hi).2 ho
  have hlen : (tasksOf l (left.erase i) ++ [l.getD i.toNat Dat.d0]).length = left.length := by rw [snocT_len, tasksOf_len]; omega
  unfold okF
  rw [e, decide_eq_true_eq, reply_go (by omega) hok hR (by omega) (by rw [tasksOf_len, hle]; omega), repV_iff hR hok (by rw [tasksOf_len, hle]; omega)]
  rw [List.take_left', List.getD_eq_getElem?_getD]
  · simp
  · rfl
theorem pF_hit {p : Int → Bool} : ∀ {l : List Int} {k : Nat}, 0 ≤ pF p k l → p (l.getD ((pF p k l) - k).toNat 0) = true
  | [], k, h => by rw [pF] at h; omega
  | y :: r, k, h => by
    rw [pF] at *
    by_cases hy : p y = true
    · rw [if_pos hy, Int.sub_self]; exact hy
    · rw [if_neg hy] at *
      have h1 := pF_hit (l := r) (k := k + 1) h
      have h2 := (pF_lt (p := p) (l := r) (k := k + 1)).2 h
      have e : (pF p (k + 1) r - (k : Int)).toNat = (pF p (k + 1) r - ((k + 1 : Nat) : Int)).toNat + 1 := by omega
      rw [e, List.getD_cons_succ]; exact h1
theorem pF_miss {p : Int → Bool} : ∀ {l : List Int} {k : Nat}, pF p k l < 0 → ∀ x ∈ l, p x = false
  | [], _, _ => by simp
  | y :: r, k, h => by
    rw [pF] at h
    by_cases hy : p y = true
    · rw [if_pos hy] at h; omega
    · rw [if_neg hy] at h
      intro x hx
      rcases List.mem_cons.1 hx with rfl | hx
      · simpa using hy
      · exact pF_miss h x hx
theorem delU_perm {l : List Int} {k : Nat} (hk : k < l.length) : l.Perm (l.getD k 0 :: delU l k (k + 1)) := by
  have e : l = l.take k ++ l.getD k 0 :: l.drop (k + 1) := by
    conv => lhs; rw [← List.take_append_drop k l, drop_cons 0 hk]
  unfold delU
  conv => lhs; rw [e]
  exact List.perm_middle
structure FindW (l : List Task) (s : Set) (left w : List Int) : Prop where
  pm : w.Perm left
  ok : ∀ q, q < w.length → OkT s (tasksOf l (w.take q)) (l.getD (w.getD q 0).toNat Dat.d0)
theorem needS_same {l : List Task} {s : Set} {a b : List Int} {t : Task} (h : a.Perm b) (hk : OkT s (tasksOf l a) t) : OkT s (tasksOf l b) t := by
  obtain ⟨n, n1, n2, n3⟩ := hk
  exact ⟨n, n1, n2, by rw [← needS_perm (tasksOf_perm h)]; exact n3⟩
theorem findF_some {l : List Task} {s : Set} (hR : Right s) (ho : l.all okT = true) : ∀ {p : Nat} {left out o : List Int}, left.length = p → p ≤ 16 → left.Nodup → (∀ x ∈ left, 0 ≤ x ∧ x.toNat < l.length) → p ≤ out.length → findF l s p left out = some o →
    ∃ w, o = w ++ out.drop p ∧ FindW l s left w
  | 0, left, out, o, hl, _, _, _, _, h => by
    rw [findF] at h
    cases h
    exact ⟨[], by simp, by rw [List.eq_nil_of_length_eq_zero hl], by simp⟩
  | p + 1, left, out, o, hl, h16, hn, hr, hp, h => by
    rw [findF] at h
    split at h
    · cases h
    · rename_i hk
      have hk0 : 0 ≤ pF (okF l s left) 0 left := by omega
      have hk1 := (pF_lt (p := okF l s left) (l := left) (k := 0)).2 hk0
      have hit := pF_hit hk0
      rw [show pF (okF l s left) 0 left - ((0 : Nat) : Int) = pF (okF l s left) 0 left by omega] at hit
      have hkl : (pF (okF l s left) 0 left).toNat < left.length := by omega
      generalize (pF (okF l s left) 0 left).toNat = k at *
      have hpm := delU_perm hkl
      have hnd : (left.getD k 0 :: delU left k (k + 1)).Nodup := hpm.nodup_iff.1 hn
      rw [List.nodup_cons] at hnd
      have hdl : (delU left k (k + 1)).length = p := by have := hpm.length_eq; simp only [List.length_cons] at this; omega
      have hj : left.getD k 0 ∈ left := gd_memI hkl
      have hlast := (okF_iff hR ho (by omega) hn hr hj).1 hit
      obtain ⟨w, e, hw⟩ := findF_some hR ho hdl (by omega) hnd.2 (fun x hx => hr x (delU_mem hx)) (by rw [List.length_set]; omega) h
      have hwl : w.length = p := by rw [hw.pm.length_eq, hdl]
      have he : (left.erase (left.getD k 0)).Perm w := by
        have h1 : (left.getD k 0 :: left.erase (left.getD k 0)).Perm (left.getD k 0 :: delU left k (k + 1)) := (List.perm_cons_erase hj).symm.trans hpm
        exact h1.cons_inv.trans hw.pm.symm
      refine ⟨w ++ [left.getD k 0], ?_, ⟨?_, fun q hq => ?_⟩⟩
      · rw [e, List.append_assoc]
        congr 1
        rw [drop_cons 0 (by rw [List.length_set]; omega), List.drop_set_of_lt (by omega)]
        have : (out.set p (left.getD k 0)).getD p 0 = left.getD k 0 := by rw [gd_set _ _ _ _ _ (by omega)]; simp
        rw [this]; rfl
      · exact (List.perm_append_comm).trans ((hw.pm.cons _).trans hpm.symm)
      · rw [List.length_append, List.length_singleton] at hq
        by_cases hqp : q < p
        · rw [List.take_append_of_le_length (by omega), gd_app, decide_eq_true (show q < w.length by omega), cond_true]
          exact hw.ok q (by omega)
        · have : q = w.length := by omega
          subst this
          have e1 : (w ++ [left.getD k 0]).take w.length = w := List.take_left' rfl
          have e2 : (w ++ [left.getD k 0]).getD w.length 0 = left.getD k 0 := by rw [gd_app, decide_eq_false (Nat.lt_irrefl _), cond_false, Nat.sub_self]; rfl
          rw [e1, e2]
          exact needS_same he hlast
theorem findF_none {l : List Task} {s : Set} (hR : Right s) (ho : l.all okT = true) : ∀ {p : Nat} {left out : List Int}, left.length = p → p ≤ 16 → left.Nodup → (∀ x ∈ left, 0 ≤ x ∧ x.toNat < l.length) → findF l s p left out = none →
    ∃ S : List Int, S ≠ [] ∧ S.Nodup ∧ (∀ x ∈ S, 0 ≤ x ∧ x.toNat < l.length) ∧ ∀ j ∈ S, ¬ OkT s (tasksOf l (S.erase j)) (l.getD j.toNat Dat.d0)
  | 0, left, out, _, _, _, _, h => by rw [findF] at h; cases h
  | p + 1, left, out, hl, h16, hn, hr, h => by
    rw [findF] at h
    split at h
    · rename_i hk
      refine ⟨left, fun e => by rw [e] at hl; simp at hl, hn, hr, fun j hj hok => ?_⟩
      have := pF_miss hk j hj
      rw [(okF_iff hR ho (by omega) hn hr hj).2 hok] at this
      cases this
    · rename_i hk
      have hk0 : 0 ≤ pF (okF l s left) 0 left := by omega
      have hk1 := (pF_lt (p := okF l s left) (l := left) (k := 0)).2 hk0
      have hkl : (pF (okF l s left) 0 left).toNat < left.length := by omega
      generalize (pF (okF l s left) 0 left).toNat = k at *
      have hpm := delU_perm hkl
      have hnd : (left.getD k 0 :: delU left k (k + 1)).Nodup := hpm.nodup_iff.1 hn
      rw [List.nodup_cons] at hnd
      have hdl : (delU left k (k + 1)).length = p := by have := hpm.length_eq; simp only [List.length_cons] at this; omega
      exact findF_none hR ho hdl (by omega) hnd.2 (fun x hx => hr x (delU_mem hx)) h
theorem byL_nodup (k : Nat) (l : List Task) : (byL k l).Nodup := stabL_perm.symm.nodup_iff.1 (rngL_nodup _)
theorem find_cases (l : List Task) (s : Set) : (∃ a, findV l s = (a, 0) ∧ GoodO l a s) ∨ (findV l s = ([], 11) ∧ ∀ o, ¬ GoodO l o s) ∨ (findV l s).1 = [] ∧ (findV l s).2 ≠ 0 ∧ (findV l s).2 ≠ 11 := by
  unfold findV
  by_cases h1 : tchkV l = 0
  · rw [if_pos h1]
    have hT := tchk_iff.1 h1
    by_cases h2 : checkV s = 0
    · rw [if_pos h2]
      have hR := check_iff.1 h2
      have hbl := byL_len 50 l
      have hbn := byL_nodup 50 l
      have hbm : ∀ x ∈ byL 50 l, 0 ≤ x ∧ x.toNat < l.length := fun x hx => byL_mem hx
      generalize byL 50 l = b at *
      cases hf : findF l s l.length b (zerL l.length) with
      | some o =>
        left
        obtain ⟨w, e, hw⟩ := findF_some hR hT.2 hbl hT.1 hbn hbm (by rw [zerL_len]; exact Nat.le_refl _) hf
        rw [List.drop_eq_nil_of_le (by rw [zerL_len]; exact Nat.le_refl _), List.append_nil] at e
        subst e
        exact ⟨o, rfl, ⟨hT.1, hT.2, by rw [hw.pm.length_eq, hbl], fun x hx => hbm x (hw.pm.mem_iff.1 hx), hw.pm.symm.nodup_iff.1 hbn⟩, hR, hw.ok⟩
      | none =>
        right; left
        refine ⟨rfl, fun o hg => ?_⟩
        obtain ⟨S, s1, s2, s3, s4⟩ := findF_none hR hT.2 hbl hT.1 hbn hbm hf
        obtain ⟨j, hj, hok⟩ := good_last hg s1 s2 s3
        exact s4 j hj hok
    · rw [if_neg h2]
      right; right
      refine ⟨rfl, h2, ?_⟩
      show checkV s ≠ 11
      unfold checkV
      repeat' split
      all_goals decide
  · rw [if_neg h1]
    right; right
    refine ⟨rfl, h1, ?_⟩
    show tchkV l ≠ 11
    unfold tchkV
    repeat' split
    all_goals decide
theorem by_ord {l : List Task} (k : Nat) (h16 : l.length ≤ 16) (ho : l.all okT = true) : IsOrd l (byL k l) := ⟨h16, ho, byL_len k l, fun x hx => byL_mem hx, byL_nodup k l⟩
theorem by_srt (k : Nat) (l : List Task) : (byL k l).Pairwise fun x y => keyAt k l x ≤ keyAt k l y := stabL_srt
theorem byDue_good {l : List Task} {o : List Int} {s : Set} (h : GoodO l o s) : GoodO l (byL 49 l) s := due_good h (by_ord _ h.ord.h16 h.ord.ok) (by_srt 49 l)
theorem byEvery_good {l : List Task} {o : List Int} {s : Set} (h : GoodO l o s) (he : ∀ t ∈ l, t.due = t.every) : GoodO l (byL 55 l) s := by
  refine due_good h (by_ord _ h.ord.h16 h.ord.ok) ((by_srt 55 l).imp_of_mem fun {x y} hx hy hxy => ?_)
  have g : ∀ x ∈ byL 55 l, (l.getD x.toNat Dat.d0).due = (l.getD x.toNat Dat.d0).every := fun x hx => by
    have := byL_mem hx
    refine he _ ?_
    rw [List.getD_eq_getElem?_getD, List.getElem?_eq_getElem this.2]
    exact List.getElem_mem _
  rw [g x hx, g y hy]
  exact hxy

end Go.Proofs.Ytabchkekhpmpiaa
