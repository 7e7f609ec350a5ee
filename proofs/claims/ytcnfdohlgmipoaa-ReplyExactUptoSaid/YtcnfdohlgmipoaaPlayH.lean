/- The heap of container/heap, and the queue in order: plain. -/
import Derived.Test.YtcnfdohlgmipoaaPlayQ
set_option linter.all false
namespace Go.Proofs.Ytcnfdohlgmipoaa
open Go Go.Abs

section
variable {α : Type} (lt : α → α → Prop) [DecidableRel lt] (d : α)
def swapH (h : List α) (i j : Nat) : List α := (h.set i (h.getD j d)).set j (h.getD i d)
def upH : Nat → List α → Nat → List α
  | 0, h, _ => h
  | f + 1, h, j => if (j - 1) / 2 = j ∨ ¬ lt (h.getD j d) (h.getD ((j - 1) / 2) d) then h else upH f (swapH d h ((j - 1) / 2) j) ((j - 1) / 2)
def kidH (h : List α) (i n : Nat) : Nat := if 2 * i + 2 < n ∧ lt (h.getD (2 * i + 2) d) (h.getD (2 * i + 1) d) then 2 * i + 2 else 2 * i + 1
def downH : Nat → List α → Nat → Nat → List α
  | 0, h, _, _ => h
  | f + 1, h, i, n => if n ≤ 2 * i + 1 ∨ ¬ lt (h.getD (kidH lt d h i n) d) (h.getD i d) then h else downH f (swapH d h i (kidH lt d h i n)) (kidH lt d h i n) n
def IsH (n : Nat) (h : List α) : Prop := ∀ k, 0 < k → k < n → ¬ lt (h.getD k d) (h.getD ((k - 1) / 2) d)
def pushH (h : List α) (x : α) : List α := upH lt d (h.length + 1) (h ++ [x]) h.length
theorem swapH_len (h : List α) (i j : Nat) : (swapH d h i j).length = h.length := by simp [swapH]
theorem swapH_get {h : List α} {i j k : Nat} (hi : i < h.length) (hj : j < h.length) : (swapH d h i j).getD k d = if k = j then h.getD i d else if k = i then h.getD j d else h.getD k d := by
  unfold swapH
  simp only [List.getD_eq_getElem?_getD, List.getElem?_set, List.length_set]
  by_cases h1 : k = j
  · subst h1; simp [hj]
  · by_cases h2 : k = i
    · subst h2; simp [h1, Ne.symm h1, hi]
    · simp [h1, h2, Ne.symm h1, Ne.symm h2]
theorem swapH_perm {h : List α} {i j : Nat} (hi : i < h.length) (hj : j < h.length) : (swapH d h i j).Perm h := by
  unfold swapH
  have e1 : h.getD i d = h[i] := by simp [hi]
  have e2 : h.getD j d = h[j] := by simp [hj]
  rw [e1, e2]
  exact List.set_set_perm hi hj
theorem upH_len : ∀ (f : Nat) (h : List α) (j : Nat), (upH lt d f h j).length = h.length
  | 0, h, j => rfl
  | f + 1, h, j => by
    rw [upH]; split
    · rfl
    · rw [upH_len f, swapH_len]
theorem downH_len : ∀ (f : Nat) (h : List α) (i n : Nat), (downH lt d f h i n).length = h.length
  | 0, h, i, n => rfl
  | f + 1, h, i, n => by
    rw [downH]; split
    · rfl
    · rw [downH_len f, swapH_len]
variable {lt} (ht : ∀ a b c, ¬ lt b a → ¬ lt c b → ¬ lt c a) (ha : ∀ a b, lt a b → ¬ lt b a)
include ht ha
theorem upH_ok : ∀ (f : Nat) (h : List α) (j : Nat), j < f → j < h.length → (∀ k, 0 < k → k < h.length → k ≠ j → ¬ lt (h.getD k d) (h.getD ((k - 1) / 2) d)) →
    (∀ k, 0 < k → k < h.length → (k - 1) / 2 = j → 0 < j → ¬ lt (h.getD k d) (h.getD ((j - 1) / 2) d)) → IsH lt d h.length (upH lt d f h j) ∧ (upH lt d f h j).Perm h
  | 0, h, j, hf, _, _, _ => absurd hf (Nat.not_lt_zero _)
  | f + 1, h, j, hf, hj, h1, h2 => by
    rw [upH]
    split
    · rename_i hc
      refine ⟨fun k hk0 hk => ?_, List.Perm.refl _⟩
      by_cases hkj : k = j
      · subst hkj
        rcases hc with hc | hc
        · omega
        · exact hc
      · exact h1 k hk0 hk hkj
    · rename_i hc
      obtain ⟨hc1, hc2⟩ : ¬ (j - 1) / 2 = j ∧ lt (h.getD j d) (h.getD ((j - 1) / 2) d) := ⟨fun h => hc (.inl h), Classical.byContradiction fun h => hc (.inr h)⟩
      have hi : (j - 1) / 2 < h.length := by omega
      have ih := upH_ok f (swapH d h ((j - 1) / 2) j) ((j - 1) / 2) (by omega) (by rw [swapH_len]; exact hi)
      rw [swapH_len] at ih
      have ih2 := ih (fun k hk0 hk hki => by
        rw [swapH_get d hi hj, swapH_get d hi hj]
        by_cases hkj : k = j
        · subst hkj
          rw [if_pos rfl, if_neg (by omega), if_pos rfl]
          exact ha _ _ hc2
        · rw [if_neg hkj, if_neg hki]
          by_cases hp : (k - 1) / 2 = j
          · rw [if_pos hp]
            exact h2 k hk0 hk hp (by omega)
          · rw [if_neg hp]
            by_cases hp2 : (k - 1) / 2 = (j - 1) / 2
            · rw [if_pos hp2]
              have := h1 k hk0 hk hkj
              rw [hp2] at this
              exact ht _ _ _ (ha _ _ hc2) this
            · rw [if_neg hp2]
              exact h1 k hk0 hk hkj)
        (fun k hk0 hk hp hi0 => by
          rw [swapH_get d hi hj, swapH_get d hi hj]
          rw [if_neg (show ¬ ((j - 1) / 2 - 1) / 2 = j by omega), if_neg (show ¬ ((j - 1) / 2 - 1) / 2 = (j - 1) / 2 by omega)]
          have hq := h1 ((j - 1) / 2) hi0 hi (by omega)
          by_cases hkj : k = j
          · rw [if_pos hkj]; exact hq
          · rw [if_neg hkj, if_neg (by omega)]
            have := h1 k hk0 hk hkj
            rw [hp] at this
            exact ht _ _ _ hq this)
      exact ⟨ih2.1, ih2.2.trans (swapH_perm d hi hj)⟩
theorem pushH_ok {h : List α} {x : α} (hh : IsH lt d h.length h) : IsH lt d (h.length + 1) (pushH lt d h x) ∧ (pushH lt d h x).Perm (x :: h) := by
  have hl : (h ++ [x]).length = h.length + 1 := by simp
  have hg : ∀ k, k < h.length → (h ++ [x]).getD k d = h.getD k d := fun k hk => by simp [hk, List.getElem?_append_left]
  have := upH_ok (lt := lt) d ht ha (h.length + 1) (h ++ [x]) h.length (by omega) (by omega)
    (fun k hk0 hk hkj => by rw [hg k (by omega), hg _ (by omega)]; exact hh k hk0 (by omega)) (fun k hk0 hk hp hj => by omega)
  rw [hl] at this
  exact ⟨this.1, this.2.trans (by simpa using (List.perm_append_comm : (h ++ [x]).Perm ([x] ++ h)))⟩
theorem downH_ok : ∀ (f : Nat) (h : List α) (i n : Nat), n - i ≤ f → n ≤ h.length → (∀ k, 0 < k → k < n → (k - 1) / 2 ≠ i → ¬ lt (h.getD k d) (h.getD ((k - 1) / 2) d)) →
    (∀ k, 0 < k → k < n → (k - 1) / 2 = i → 0 < i → ¬ lt (h.getD k d) (h.getD ((i - 1) / 2) d)) → IsH lt d n (downH lt d f h i n) ∧ (downH lt d f h i n).Perm h ∧ ∀ k, n ≤ k → (downH lt d f h i n).getD k d = h.getD k d
  | 0, h, i, n, hf, _, h1, h2 => ⟨fun k hk0 hk => h1 k hk0 hk (by omega), List.Perm.refl _, fun _ _ => rfl⟩
  | f + 1, h, i, n, hf, hn, h1, h2 => by
    rw [downH]
    have hkid : ∀ k, 0 < k → k < n → (k - 1) / 2 = i → ¬ lt (h.getD k d) (h.getD (kidH lt d h i n) d) := fun k hk0 hk hp => by
      have : k = 2 * i + 1 ∨ k = 2 * i + 2 := by omega
      unfold kidH
      split
      · rename_i hc
        rcases this with rfl | rfl
        · exact ha _ _ hc.2
        · exact fun h => ha _ _ h h
      · rename_i hc
        rcases this with rfl | rfl
        · exact fun h => ha _ _ h h
        · exact fun h => hc ⟨by omega, h⟩
    split
    · rename_i hc
      refine ⟨fun k hk0 hk => ?_, List.Perm.refl _, fun _ _ => rfl⟩
      by_cases hp : (k - 1) / 2 = i
      · rcases hc with hc | hc
        · omega
        · rw [hp]; exact ht _ _ _ hc (hkid k hk0 hk hp)
      · exact h1 k hk0 hk hp
    · rename_i hc
      obtain ⟨hc1, hc2⟩ : 2 * i + 1 < n ∧ lt (h.getD (kidH lt d h i n) d) (h.getD i d) := ⟨Nat.lt_of_not_le fun h => hc (.inl h), Classical.byContradiction fun h => hc (.inr h)⟩
      have hj1 : kidH lt d h i n < n ∧ (kidH lt d h i n - 1) / 2 = i ∧ i < kidH lt d h i n := by unfold kidH; split <;> omega
      revert hc2 hkid hj1
      generalize kidH lt d h i n = j
      intro hkid hc2 ⟨hj1, hj2, hj3⟩
      have hil : i < h.length := by omega
      have hjl : j < h.length := by omega
      have ih := downH_ok f (swapH d h i j) j n (by omega) (by rw [swapH_len]; exact hn) (fun k hk0 hk hp => by
        rw [swapH_get d hil hjl, swapH_get d hil hjl, if_neg hp]
        by_cases hkj : k = j
        · rw [if_pos hkj, if_pos (by omega)]
          exact ha _ _ hc2
        · rw [if_neg hkj]
          by_cases hki : k = i
          · subst hki
            rw [if_pos rfl, if_neg (by omega)]
            exact h2 j (by omega) hj1 hj2 hk0
          · rw [if_neg hki]
            by_cases hp2 : (k - 1) / 2 = i
            · rw [if_pos hp2]; exact hkid k hk0 hk hp2
            · rw [if_neg hp2]; exact h1 k hk0 hk hp2) (fun k hk0 hk hp hj0 => by
        rw [swapH_get d hil hjl, swapH_get d hil hjl, if_neg (by omega), if_neg (by omega), hj2, if_neg (by omega), if_pos rfl]
        have := h1 k hk0 hk (by omega)
        rwa [hp] at this)
      refine ⟨ih.1, ih.2.1.trans (swapH_perm d hil hjl), fun k hk => ?_⟩
      rw [ih.2.2 k hk, swapH_get d hil hjl, if_neg (by omega), if_neg (by omega)]
theorem heap_min {h : List α} {n : Nat} (hh : IsH lt d n h) : ∀ k, k < n → ¬ lt (h.getD k d) (h.getD 0 d) := by
  intro k
  induction k using Nat.strongRecOn with
  | _ k ih =>
    intro hk
    by_cases h0 : k = 0
    · subst h0; exact fun h => ha _ _ h h
    · exact ht _ _ _ (ih ((k - 1) / 2) (by omega) (by omega)) (hh k (by omega) hk)
theorem popN_ok {h : List α} {n : Nat} (h0 : 0 < n) (hn : n ≤ h.length) (hh : IsH lt d n h) : IsH lt d (n - 1) (downH lt d n (swapH d h 0 (n - 1)) 0 (n - 1)) ∧
    (h.getD 0 d :: (downH lt d n (swapH d h 0 (n - 1)) 0 (n - 1)).take (n - 1)).Perm (h.take n) ∧ (downH lt d n (swapH d h 0 (n - 1)) 0 (n - 1)).getD (n - 1) d = h.getD 0 d ∧ (downH lt d n (swapH d h 0 (n - 1)) 0 (n - 1)).length = h.length := by
  have hz : n - 1 < h.length := by omega
  have h00 : 0 < h.length := by omega
  have := downH_ok (lt := lt) d ht ha n (swapH d h 0 (n - 1)) 0 (n - 1) (by omega) (by rw [swapH_len]; omega) (fun k hk0 hk hp => by
    rw [swapH_get d h00 hz, swapH_get d h00 hz, if_neg (by omega), if_neg (by omega), if_neg (by omega), if_neg hp]
    exact hh k hk0 (by omega)) (fun k _ _ _ h => by omega)
  have hlen : (downH lt d n (swapH d h 0 (n - 1)) 0 (n - 1)).length = h.length := by rw [downH_len, swapH_len]
  have hlast : (downH lt d n (swapH d h 0 (n - 1)) 0 (n - 1)).getD (n - 1) d = h.getD 0 d := by
    rw [this.2.2 _ (Nat.le_refl _), swapH_get d h00 hz, if_pos rfl]
  refine ⟨this.1, ?_, hlast, hlen⟩
  have hp : (downH lt d n (swapH d h 0 (n - 1)) 0 (n - 1)).Perm h := this.2.1.trans (swapH_perm d h00 hz)
  have hdr : ∀ k, n ≤ k → (downH lt d n (swapH d h 0 (n - 1)) 0 (n - 1)).getD k d = h.getD k d := fun k hk => by
    rw [this.2.2 k (by omega), swapH_get d h00 hz, if_neg (by omega), if_neg (by omega)]
  revert hlen hlast hp hdr
  generalize downH lt d n (swapH d h 0 (n - 1)) 0 (n - 1) = g
  intro hlen hlast hp hdr
  have ed : g.drop n = h.drop n := by
    apply List.ext_getElem (by simp [hlen])
    intro i h1 h2
    have := hdr (n + i) (by omega)
    simp at h1 h2
    simpa [List.getD_eq_getElem?_getD, show n + i < g.length by omega, show n + i < h.length by omega] using this
  have e1 : g = g.take n ++ h.drop n := by rw [← ed]; exact (List.take_append_drop n g).symm
  have e2 : h = h.take n ++ h.drop n := (List.take_append_drop n h).symm
  have hp2 : (g.take n).Perm (h.take n) := by
    have h3 : (g.take n ++ h.drop n).Perm (h.take n ++ h.drop n) := by rw [← e1, ← e2]; exact hp
    exact (List.perm_append_right_iff _).1 h3
  have e3 : g.take n = g.take (n - 1) ++ [h.getD 0 d] := by
    have h4 : n = n - 1 + 1 := by omega
    have h5 : n - 1 < g.length := by omega
    rw [h4, List.take_succ_eq_append_getElem h5, ← h4, ← hlast]
    simp [h5]
  rw [e3] at hp2
  exact (List.perm_append_comm : ([h.getD 0 d] ++ _).Perm _).trans hp2
end
abbrev jz : job := Dat.d0
theorem key_tr {fx : Bool} : ∀ a b c : job, ¬ keyLt fx b a → ¬ keyLt fx c b → ¬ keyLt fx c a := fun a b c h1 h2 h3 => by
  unfold keyLt at *
  cases fx <;> simp at * <;> omega
theorem key_as {fx : Bool} : ∀ a b : job, keyLt fx a b → ¬ keyLt fx b a := fun a b h1 h2 => by
  unfold keyLt at *
  cases fx <;> simp at * <;> omega
def pushA (fx : Bool) (l : List job) (n : Nat) (x : job) : List job := upH (keyLt fx) jz (n + 1) (l.take n ++ [x]) n
def pullA (fx : Bool) (t : Int) : List job → List job → Nat → List job × List job × Nat
  | [], l, n => ([], l, n)
  | x :: r, l, n => if x.done.came ≤ t then pullA fx t r (pushA fx l n x) (n + 1) else (x :: r, l, n)
def lessA (l : List job) : List job := l.set 0 ⟨(l.getD 0 jz).done, (l.getD 0 jz).due, (l.getD 0 jz).left - 1⟩
def popA (fx : Bool) (l : List job) (n : Nat) : List job := downH (keyLt fx) jz n (swapH jz l 0 (n - 1)) 0 (n - 1)
def doneA (t : Int) (x : job) : Done := ⟨x.done.task, x.done.job, x.done.came, t + 1⟩
structure StA where
  l : List job
  n : Nat
  out : List Done
  idle : Int
def tickA (fx : Bool) (s : Set) (t : Int) (a : StA) : StA :=
  if (hasV s t).1 = true then (if a.n = 0 then ⟨a.l, a.n, a.out, a.idle + 1⟩ else
    if ((lessA a.l).getD 0 jz).left = 0 then ⟨popA fx (lessA a.l) a.n, a.n - 1, a.out ++ [doneA t ((popA fx (lessA a.l) a.n).getD (a.n - 1) jz)], a.idle⟩ else ⟨lessA a.l, a.n, a.out, a.idle⟩) else a
def playA (fx : Bool) (s : Set) : Nat → Int → List job → StA → StA
  | 0, _, _, a => a
  | k + 1, t, td, a => playA fx s k (t + 1) (pullA fx t td a.l a.n).1 (tickA fx s t ⟨(pullA fx t td a.l a.n).2.1, (pullA fx t td a.l a.n).2.2, a.out, a.idle⟩)
structure RelA (fx : Bool) (l : List job) (n : Nat) (q : List job) : Prop where
  hn : n ≤ l.length
  hh : IsH (keyLt fx) jz n l
  hp : (l.take n).Perm q
  hs : q.Pairwise (keyLt fx)
def apart (x y : job) : Prop := x.done.task ≠ y.done.task ∨ x.done.job ≠ y.done.job
theorem key_tot {fx : Bool} {x y : job} (h : apart x y) : ¬ keyLt fx x y → keyLt fx y x := fun h1 => by
  unfold keyLt at *
  unfold apart at h
  cases fx <;> simp at * <;> omega
theorem key_trans {fx : Bool} {a b c : job} (h1 : keyLt fx a b) (h2 : keyLt fx b c) : keyLt fx a c := by
  unfold keyLt at *
  cases fx <;> simp at * <;> omega
theorem insQ_perm {fx : Bool} {x : job} : ∀ {q : List job}, (insQ fx x q).Perm (x :: q)
  | [] => List.Perm.refl _
  | y :: r => by
    rw [insQ]
    split
    · exact List.Perm.refl _
    · exact ((insQ_perm (q := r)).cons y).trans (List.Perm.swap x y r)
theorem insQ_srt {fx : Bool} {x : job} : ∀ {q : List job}, (∀ y ∈ q, apart x y) → q.Pairwise (keyLt fx) → (insQ fx x q).Pairwise (keyLt fx)
  | [], _, _ => by simp [insQ]
  | y :: r, h, hs => by
    have h2 := List.pairwise_cons.1 hs
    rw [insQ]
    split
    · rename_i hxy
      refine List.pairwise_cons.2 ⟨fun z hz => ?_, hs⟩
      rcases List.mem_cons.1 hz with rfl | hz
      · exact hxy
      · exact key_trans hxy (h2.1 z hz)
    · rename_i hxy
      refine List.pairwise_cons.2 ⟨fun z hz => ?_, insQ_srt (fun z hz => h z (List.mem_cons_of_mem _ hz)) h2.2⟩
      rcases List.mem_cons.1 (insQ_perm.mem_iff.1 hz) with rfl | hz
      · exact key_tot (h y (List.mem_cons_self ..)) hxy
      · exact h2.1 z hz
theorem isH_congr {fx : Bool} {l m : List job} {n : Nat} (h : ∀ k, k < n → l.getD k jz = m.getD k jz) (hh : IsH (keyLt fx) jz n l) : IsH (keyLt fx) jz n m := fun k h0 hk => by
  rw [← h k hk, ← h _ (by omega)]; exact hh k h0 hk
theorem pushA_len {fx : Bool} {l : List job} {n : Nat} {x : job} (hn : n ≤ l.length) : (pushA fx l n x).length = n + 1 := by
  unfold pushA; rw [upH_len]; simp [hn]
theorem RelA.push {fx : Bool} {l q : List job} {n : Nat} {x : job} (h : RelA fx l n q) (hx : ∀ y ∈ q, apart x y) : RelA fx (pushA fx l n x) (n + 1) (insQ fx x q) := by
  have hl : (l.take n).length = n := by simp [h.hn]
  have := pushH_ok (lt := keyLt fx) jz key_tr key_as (h := l.take n) (x := x) (by rw [hl]; exact isH_congr (fun k hk => by rw [List.getD_eq_getElem?_getD, List.getD_eq_getElem?_getD, List.getElem?_take, if_pos hk]) h.hh)
  unfold pushH at this
  rw [hl] at this
  have hlen : (pushA fx l n x).length = n + 1 := pushA_len h.hn
  refine ⟨Nat.le_of_eq hlen.symm, this.1, ?_, insQ_srt hx h.hs⟩
  rw [List.take_of_length_le (Nat.le_of_eq hlen)]
  exact (this.2.trans (h.hp.cons x)).trans insQ_perm.symm
theorem RelA.head {fx : Bool} {l r : List job} {n : Nat} {j : job} (h : RelA fx l n (j :: r)) : 0 < n ∧ l.getD 0 jz = j := by
  have hlen := h.hp.length_eq
  have h0 : 0 < n := by simp at hlen; omega
  have hn := h.hn
  refine ⟨h0, ?_⟩
  have hmem : l.getD 0 jz ∈ l.take n := by
    have e : l.getD 0 jz = (l.take n)[0]'(by simp; omega) := by simp [List.getD_eq_getElem?_getD, show 0 < l.length by omega]
    rw [e]; exact List.getElem_mem _
  rcases List.mem_cons.1 (h.hp.mem_iff.1 hmem) with e | e
  · exact e
  · have h1 := (List.pairwise_cons.1 h.hs).1 _ e
    have hj : j ∈ l.take n := h.hp.mem_iff.2 (List.mem_cons_self ..)
    obtain ⟨k, hk, e2⟩ := List.mem_iff_getElem.1 hj
    have hk2 : k < n := by simp at hk; omega
    have := heap_min (lt := keyLt fx) jz key_tr key_as h.hh k hk2
    have e3 : l.getD k jz = j := by rw [← e2]; simp [List.getD_eq_getElem?_getD, show k < l.length by omega]
    rw [e3] at this
    exact absurd h1 this
theorem RelA.less {fx : Bool} {l r : List job} {n : Nat} {j : job} (h : RelA fx l n (j :: r)) : RelA fx (lessA l) n (⟨j.done, j.due, j.left - 1⟩ :: r) ∧ (lessA l).getD 0 jz = ⟨j.done, j.due, j.left - 1⟩ := by
  obtain ⟨h0, e0⟩ := h.head
  have hn := h.hn
  have hg : ∀ k, (lessA l).getD k jz = if k = 0 then ⟨j.done, j.due, j.left - 1⟩ else l.getD k jz := fun k => by
    unfold lessA
    rw [e0]
    cases k with
    | zero => simp [show 0 < l.length by omega]
    | succ k => simp [List.getD_eq_getElem?_getD, List.getElem?_set]
  have hkey : ∀ k m, keyLt fx ((lessA l).getD k jz) ((lessA l).getD m jz) → keyLt fx (l.getD k jz) (l.getD m jz) := fun k m => by
    rw [hg, hg]
    intro hk
    split at hk <;> split at hk
    all_goals (try subst k); (try subst m); (try rw [e0]); exact hk
  refine ⟨⟨by unfold lessA; simpa using hn, fun k hk0 hk hc => h.hh k hk0 hk (hkey _ _ hc), ?_, ?_⟩, by rw [hg, if_pos rfl]⟩
  · have e1 : l = j :: l.tail := by
      cases l with
      | nil => simp at hn; omega
      | cons x t => simp at e0; rw [e0]; rfl
    have e2 : lessA l = ⟨j.done, j.due, j.left - 1⟩ :: l.tail := by
      unfold lessA; rw [e0]; rw [e1]; rfl
    obtain ⟨m, rfl⟩ : ∃ m, n = m + 1 := ⟨n - 1, by omega⟩
    have hp := h.hp
    rw [e1, List.take_succ_cons] at hp
    rw [e2, List.take_succ_cons]
    exact (List.Perm.cons_inv hp).cons _
  · have h2 := List.pairwise_cons.1 h.hs
    refine List.pairwise_cons.2 ⟨fun y hy => ?_, h2.2⟩
    exact h2.1 y hy
theorem RelA.pop {fx : Bool} {l r : List job} {n : Nat} {j : job} (h : RelA fx l n (j :: r)) : RelA fx (popA fx l n) (n - 1) r ∧ (popA fx l n).getD (n - 1) jz = j := by
  obtain ⟨h0, e0⟩ := h.head
  obtain ⟨p1, p2, p3, p4⟩ := popN_ok (lt := keyLt fx) jz key_tr key_as h0 h.hn h.hh
  refine ⟨⟨by unfold popA; rw [p4]; have := h.hn; omega, p1, ?_, (List.pairwise_cons.1 h.hs).2⟩, by unfold popA; rw [p3, e0]⟩
  rw [e0] at p2
  exact List.Perm.cons_inv (p2.trans h.hp)
def Aprt (td q : List job) : Prop := (td ++ q).Pairwise apart
theorem apart_sym {x y : job} (h : apart x y) : apart y x := h.imp Ne.symm Ne.symm
theorem pull_eq {fx : Bool} {t : Int} : ∀ {td l q : List job} {n : Nat}, RelA fx l n q → Aprt td q → (pullA fx t td l n).1 = (pullQ fx t td q).1 ∧ RelA fx (pullA fx t td l n).2.1 (pullA fx t td l n).2.2 (pullQ fx t td q).2 ∧ Aprt (pullQ fx t td q).1 (pullQ fx t td q).2
  | [], l, q, n, h, ha => ⟨rfl, h, ha⟩
  | x :: r, l, q, n, h, ha => by
    have h2 := List.pairwise_cons.1 ha
    rw [pullA, pullQ]
    split
    · refine pull_eq (h.push fun y hy => h2.1 y (List.mem_append_right _ hy)) ?_
      have hp : (r ++ insQ fx x q).Perm (x :: r ++ q) := ((insQ_perm (fx := fx) (x := x) (q := q)).append_left r).trans List.perm_middle
      exact (hp.pairwise_iff fun h => apart_sym h).2 ha
    · exact ⟨rfl, h, ha⟩
theorem play_eq {fx : Bool} {s : Set} : ∀ {k : Nat} {t : Int} {td q : List job} {a : StA}, RelA fx a.l a.n q → Aprt td q →
    ((playA fx s k t td a).out, (playA fx s k t td a).idle) = playR fx s k t td (q, a.out, a.idle)
  | 0, t, td, q, a, h, ha => rfl
  | k + 1, t, td, q, a, h, ha => by
    obtain ⟨e1, h1, a1⟩ := pull_eq (t := t) h ha
    rw [playA, playR, e1]
    revert h1 a1
    generalize (pullQ fx t td q).2 = q1
    generalize (pullQ fx t td q).1 = td1
    generalize (pullA fx t td a.l a.n).2.1 = l1
    generalize (pullA fx t td a.l a.n).2.2 = n1
    intro h1 a1
    unfold tickA tickQ
    dsimp only
    by_cases hh : (hasV s t).1 = true
    · rw [if_pos hh, if_pos hh]
      cases q1 with
      | nil =>
        have hn0 : n1 = 0 := by
          have e1 := h1.hp.length_eq
          have e2 := h1.hn
          rw [List.length_take, List.length_nil] at e1
          omega
        subst hn0
        simp only [if_true]
        exact play_eq h1 a1
      | cons j r =>
        obtain ⟨h0, e0⟩ := h1.head
        obtain ⟨h2, e2⟩ := h1.less
        dsimp only
        rw [if_neg (by omega), e2]
        dsimp only
        by_cases hl : j.left - 1 = 0
        · rw [if_pos hl, if_pos hl]
          obtain ⟨h3, e3⟩ := h2.pop
          rw [e3]
          exact play_eq h3 (a1.sublist (List.Sublist.append_left (List.sublist_cons_self j r) td1))
        · rw [if_neg hl, if_neg hl]
          refine play_eq h2 ?_
          unfold Aprt at a1 ⊢
          rw [List.pairwise_append] at a1 ⊢
          obtain ⟨b1, b2, b3⟩ := a1
          have b2 := List.pairwise_cons.1 b2
          refine ⟨b1, List.pairwise_cons.2 ⟨fun y hy => b2.1 y hy, b2.2⟩, fun x hx y hy => ?_⟩
          rcases List.mem_cons.1 hy with rfl | hy
          · exact b3 x hx j (List.mem_cons_self ..)
          · exact b3 x hx y (List.mem_cons_of_mem _ hy)
    · rw [if_neg hh, if_neg hh]
      exact play_eq h1 a1

end Go.Proofs.Ytcnfdohlgmipoaa
