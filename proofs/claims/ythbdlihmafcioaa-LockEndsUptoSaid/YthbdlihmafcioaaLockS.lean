/- Locks, plain: what is held, where free acts end. -/
import Derived.Test.YthbdlihmafcioaaLockR
set_option linter.all false
namespace Go.Proofs.Ythbdlihmafcioaa
open Go Go.Abs

def heldF : List Int → List Act → List Int
  | h, [] => h
  | h, a :: r => heldF (if a.kind = 3 then h.take (h.length - 1) else if a.kind = 1 then h else h ++ [a.n]) r
def runsF : Bool → List Act → Bool
  | b, [] => b
  | b, a :: r => runsF (if a.kind = 1 then true else if a.kind = 2 then false else b) r
theorem heldF_app : ∀ {m r : List Act} {h : List Int}, heldF h (m ++ r) = heldF (heldF h m) r
  | [], _, _ => rfl
  | a :: m, r, h => by rw [List.cons_append, heldF, heldF, heldF_app]
theorem runsF_app : ∀ {m r : List Act} {h : Bool}, runsF h (m ++ r) = runsF (runsF h m) r
  | [], _, _ => rfl
  | a :: m, r, h => by rw [List.cons_append, runsF, runsF, runsF_app]
theorem rgt_app : ∀ {m r : List Act} {h : List Int} {b : Bool}, rgtR h b (m ++ r) = true → rgtR (heldF h m) (runsF b m) r = true
  | [], _, _, _, q => q
  | a :: m, r, h, b, q => by
    rw [List.cons_append] at q
    rw [heldF, runsF]
    refine rgt_app ?_
    rcases rgt_kind q with k | k | k
    · rw [if_neg (by omega), if_pos k, if_pos k]; exact (rgt_run k q).2.2
    · rw [if_neg (by omega), if_neg (by omega), if_neg (by omega), if_pos k]; exact (rgt_take k q).2.2
    · rw [if_pos k, if_neg (by omega), if_neg (by omega)]; exact (rgt_drop k q).2.2
def hAt (A : List Act) (k : Nat) : List Int := heldF [] (A.take k)
def rAt (A : List Act) (k : Nat) : Bool := runsF false (A.take k)
theorem rgt_at {A : List Act} (h : rgtR [] false A = true) (k : Nat) : rgtR (hAt A k) (rAt A k) (A.drop k) = true := rgt_app (by rwa [List.take_append_drop])
theorem take_at {A : List Act} {k : Nat} (hk : k < A.length) : A.take (k + 1) = A.take k ++ [A.getD k Dat.d0] := by
  rw [List.take_add_one, List.getElem?_eq_getElem hk, List.getD_eq_getElem?_getD, List.getElem?_eq_getElem hk]; rfl
theorem hAt_s {A : List Act} {k : Nat} (hk : k < A.length) : hAt A (k + 1) = if (A.getD k Dat.d0).kind = 3 then (hAt A k).take ((hAt A k).length - 1) else if (A.getD k Dat.d0).kind = 1 then hAt A k else hAt A k ++ [(A.getD k Dat.d0).n] := by
  rw [hAt, take_at hk, heldF_app]; rfl
theorem rAt_s {A : List Act} {k : Nat} (hk : k < A.length) : rAt A (k + 1) = if (A.getD k Dat.d0).kind = 1 then true else if (A.getD k Dat.d0).kind = 2 then false else rAt A k := by
  rw [rAt, take_at hk, runsF_app]; rfl
theorem hAt_0 {A : List Act} : hAt A 0 = [] := by rw [hAt, List.take_zero]; rfl
theorem hAt_end {A : List Act} (h : rgtR [] false A = true) {k : Nat} (hk : A.length ≤ k) : hAt A k = [] := by
  have := rgt_at h k
  rw [List.drop_eq_nil_of_le hk, rgtR, Bool.and_eq_true] at this
  exact List.length_eq_zero_iff.1 (of_decide_eq_true this.2)
theorem at_get {A : List Act} {k : Nat} (hk : k < A.length) : A.getD k Dat.d0 ∈ A := by rw [List.getD_eq_getElem?_getD, List.getElem?_eq_getElem hk]; exact List.getElem_mem hk
theorem at_step {A : List Act} (h : rgtR [] false A = true) {k : Nat} (hk : k < A.length) : rgtR (hAt A k) (rAt A k) (A.getD k Dat.d0 :: A.drop (k + 1)) = true := by rw [← drop_at hk]; exact rgt_at h k
theorem hAt_ok {A : List Act} (h : rgtR [] false A = true) : ∀ k, k ≤ A.length → (hAt A k).Nodup ∧ (hAt A k).length ≤ k ∧ ∀ n ∈ hAt A k, (0 ≤ n ∧ n < 8) ∧ ∃ a ∈ A, a.kind = 2 ∧ a.n = n
  | 0, _ => by rw [hAt_0]; exact ⟨List.nodup_nil, Nat.le_refl _, fun n hn => by cases hn⟩
  | k + 1, hk => by
    obtain ⟨i1, i2, i3⟩ := hAt_ok h k (by omega)
    have hr := at_step h (show k < A.length by omega)
    rw [hAt_s (by omega)]
    rcases rgt_kind hr with q | q | q
    · rw [if_neg (by omega), if_pos q]; exact ⟨i1, by omega, i3⟩
    · rw [if_neg (by omega), if_neg (by omega)]
      obtain ⟨r1, r2, r3⟩ := rgt_take q hr
      have hno : ¬ (A.getD k Dat.d0).n ∈ hAt A k := fun hm => by
        rw [rgtR, if_neg (by omega), if_pos q, if_pos (.inr (.inr hm))] at hr; cases hr
      refine ⟨?_, by rw [List.length_append, List.length_singleton]; omega, fun n hn => ?_⟩
      · rw [List.nodup_append]
        exact ⟨i1, by simp, fun a ha b hb e => hno (by rw [List.mem_singleton.1 hb] at e; rw [← e]; exact ha)⟩
      · rcases List.mem_append.1 hn with hn | hn
        · exact i3 n hn
        · rw [List.mem_singleton.1 hn]
          exact ⟨⟨r1, r2⟩, _, at_get (by omega), q, rfl⟩
    · rw [if_pos q]
      exact ⟨i1.sublist (List.take_sublist _ _), by rw [List.length_take]; omega, fun n hn => i3 n (List.mem_of_mem_take hn)⟩
def OwR (q : Int) (o o' : List Int) : Prop := ∀ p : Nat, ((o.getD p 0 = 0 ∨ o.getD p 0 = q + 1) ∧ (o'.getD p 0 = 0 ∨ o'.getD p 0 = q + 1)) ∨ o'.getD p 0 = o.getD p 0
theorem OwR.refl {q : Int} {o : List Int} : OwR q o o := fun _ => .inr rfl
theorem OwR.trans {q : Int} {o o' o2 : List Int} (h : OwR q o o') (h2 : OwR q o' o2) : OwR q o o2 := fun p => by
  rcases h p with a | a <;> rcases h2 p with b | b
  · exact .inl ⟨a.1, b.2⟩
  · exact .inl ⟨a.1, by rw [b]; exact a.2⟩
  · exact .inl ⟨by rw [← a]; exact b.1, b.2⟩
  · exact .inr (b.trans a)
theorem OwR.set {q v : Int} {o : List Int} {p : Nat} (h : o.getD p 0 = 0 ∨ o.getD p 0 = q + 1) (hv : v = 0 ∨ v = q + 1) : OwR q o (o.set p v) := fun i => by
  by_cases hi : i = p
  · subst hi
    by_cases hl : i < o.length
    · exact .inl ⟨h, by simpa [List.getD_eq_getElem?_getD, hl] using hv⟩
    · exact .inr (by rw [List.set_eq_of_length_le (by omega)])
  · exact .inr (by simp [List.getD_eq_getElem?_getD, List.getElem?_set, Ne.symm hi])
theorem set_at {o : List Int} {p : Nat} {v : Int} (hp : p < o.length) (i : Nat) : (o.set p v).getD i 0 = if i = p then v else o.getD i 0 := by
  by_cases hi : i = p
  · subst hi; rw [if_pos rfl]; simp [List.getD_eq_getElem?_getD, hp]
  · rw [if_neg hi]; simp [List.getD_eq_getElem?_getD, List.getElem?_set, Ne.symm hi]
def OwH (q : Int) (o h : List Int) : Prop := ∀ n, 0 ≤ n → n < 8 → (o.getD n.toNat 0 = q + 1 ↔ n ∈ h)
theorem last_not {h : List Int} (hd : h.Nodup) {n : Int} (h0 : 0 < h.length) : n ∈ h.take (h.length - 1) ↔ n ∈ h ∧ n ≠ h.getD (h.length - 1) 0 := by
  have e : h = h.take (h.length - 1) ++ [h.getD (h.length - 1) 0] := by
    conv => lhs; rw [← List.take_append_drop (h.length - 1) h]
    rw [drop_cons 0 (by omega), List.drop_eq_nil_of_le (by omega)]
  constructor
  · intro hn
    refine ⟨List.mem_of_mem_take hn, fun e2 => ?_⟩
    rw [e, List.nodup_append] at hd
    exact hd.2.2 _ hn _ (List.mem_singleton.2 rfl) e2
  · rintro ⟨hn, hne⟩
    rw [e] at hn
    rcases List.mem_append.1 hn with hn | hn
    · exact hn
    · exact absurd (List.mem_singleton.1 hn) hne
theorem OwH.drop {q : Int} {o h : List Int} {n : Int} (hd : h.Nodup) (h0 : 0 < h.length) (hn : n = h.getD (h.length - 1) 0) (hq : 0 ≤ q) (ho : o.length = 8) (hn8 : 0 ≤ n ∧ n < 8) (x : OwH q o h) : OwH q (o.set n.toNat 0) (h.take (h.length - 1)) := fun m m0 m8 => by
  rw [set_at (by omega), last_not hd h0, ← hn]
  by_cases hm : m = n
  · rw [if_pos (by omega)]; exact ⟨fun e => by omega, fun e => absurd hm e.2⟩
  · rw [if_neg (by omega), x m m0 m8]; exact ⟨fun e => ⟨e, hm⟩, fun e => e.1⟩
theorem OwH.take {q : Int} {o h : List Int} {n : Int} (ho : o.length = 8) (hn8 : 0 ≤ n ∧ n < 8) (x : OwH q o h) : OwH q (o.set n.toNat (q + 1)) (h ++ [n]) := fun m m0 m8 => by
  rw [set_at (by omega), List.mem_append, List.mem_singleton]
  by_cases hm : m = n
  · rw [if_pos (by omega)]; exact ⟨fun _ => .inr hm, fun _ => rfl⟩
  · rw [if_neg (by omega), x m m0 m8]; exact ⟨.inl, fun e => e.elim id fun e => absurd e hm⟩
theorem last_in {h : List Int} (h0 : 0 < h.length) : h.getD (h.length - 1) 0 ∈ h := mem_last h0
theorem free_take {A : List Act} {q : Int} (hq : 0 ≤ q) (hA : rgtR [] false A = true) : ∀ (m k : Nat) (o : List Int), A.length - k ≤ m → k < A.length → (rAt A k = false ∨ ¬ (A.getD k Dat.d0).kind = 3) → OwH q o (hAt A k) → o.length = 8 →
    (∀ a ∈ A, a.kind = 2 → o.getD a.n.toNat 0 = 0 ∨ o.getD a.n.toNat 0 = q + 1) →
    ∃ k' o', freeR q true (A.drop k) k (hAt A k) o = (true, k', hAt A k', o') ∧ k ≤ k' ∧ k' < A.length ∧ (A.getD k' Dat.d0).kind = 1 ∧ o'.length = 8 ∧ OwH q o' (hAt A k') ∧ OwR q o o' ∧ (∀ j, k ≤ j → j < k' → ¬ (A.getD j Dat.d0).kind = 1) ∧ ((A.getD k Dat.d0).kind = 1 → k' = k)
  | 0, k, o, hm, hk, _, _, _, _ => by omega
  | m + 1, k, o, hm, hk, hr, how, ho, hf => by
    have hs := at_step hA hk
    obtain ⟨hd, _, _⟩ := hAt_ok hA k (by omega)
    by_cases k1 : (A.getD k Dat.d0).kind = 1
    · exact ⟨k, o, by rw [drop_at hk, freeR, if_neg (by omega), if_pos (.inl k1)], Nat.le_refl _, hk, k1, ho, how, .refl, fun j h1 h2 => by omega, fun _ => rfl⟩
    by_cases k3 : (A.getD k Dat.d0).kind = 3
    · obtain ⟨r1, r2, r3⟩ := rgt_drop k3 hs
      have hr' : rAt A k = false := hr.resolve_right fun q => q k3
      have hn8 := ((hAt_ok hA k (by omega)).2.2 _ (mem_last r1)).1
      rw [r2] at hn8
      have e1 : hAt A (k + 1) = (hAt A k).take ((hAt A k).length - 1) := by rw [hAt_s hk, if_pos k3]
      have hk2 : k + 1 < A.length := by
        rw [hr'] at r3
        have := rgt_some r3
        rw [List.length_drop] at this
        omega
      have hin : o.getD (A.getD k Dat.d0).n.toNat 0 = q + 1 := (how _ hn8.1 hn8.2).2 (by rw [← r2]; exact mem_last r1)
      have hR : OwR q o (o.set (A.getD k Dat.d0).n.toNat 0) := OwR.set (.inr hin) (.inl rfl)
      obtain ⟨k', o', i1, i2, i3, i4, i5, i6, i7, i8, i9⟩ := free_take hq hA m (k + 1) (o.set (A.getD k Dat.d0).n.toNat 0) (by omega) hk2 (by rw [rAt_s hk, if_neg k1, if_neg (by omega)]; exact .inl hr')
        (by rw [e1]; exact how.drop hd r1 r2.symm hq ho hn8) (by rw [List.length_set]; exact ho) (fun a ha h2 => by
          rcases hR a.n.toNat with h | h
          · exact h.2
          · rw [h]; exact hf a ha h2)
      exact ⟨k', o', by rw [drop_at hk, freeR, if_pos k3, ← e1, i1], by omega, i3, i4, i5, i6, hR.trans i7, fun j h1 h2 => by
        rcases Nat.eq_or_lt_of_le h1 with rfl | h1
        · exact k1
        · exact i8 j h1 h2, fun h => absurd h k1⟩
    · have k2 : (A.getD k Dat.d0).kind = 2 := by rcases rgt_kind hs with h | h | h; exact absurd h k1; exact h; exact absurd h k3
      obtain ⟨r1, r2, r3⟩ := rgt_take k2 hs
      have e1 : hAt A (k + 1) = hAt A k ++ [(A.getD k Dat.d0).n] := by rw [hAt_s hk, if_neg k3, if_neg k1]
      have hk2 : k + 1 < A.length := by
        have := rgt_some r3
        rw [List.length_drop] at this
        omega
      have hno : ¬ (A.getD k Dat.d0).n ∈ hAt A k := fun hm => by
        rw [rgtR, if_neg k1, if_pos k2, if_pos (.inr (.inr hm))] at hs; cases hs
      have hz : o.getD (A.getD k Dat.d0).n.toNat 0 = 0 := (hf _ (at_get hk) k2).resolve_right fun h => hno ((how _ r1 r2).1 h)
      have hR : OwR q o (o.set (A.getD k Dat.d0).n.toNat (q + 1)) := OwR.set (.inl hz) (.inr rfl)
      obtain ⟨k', o', i1, i2, i3, i4, i5, i6, i7, i8, i9⟩ := free_take hq hA m (k + 1) (o.set (A.getD k Dat.d0).n.toNat (q + 1)) (by omega) hk2 (by rw [rAt_s hk, if_neg k1, if_pos k2]; exact .inl rfl)
        (by rw [e1]; exact how.take ho ⟨r1, r2⟩) (by rw [List.length_set]; exact ho) (fun a ha h2 => by
          rcases hR a.n.toNat with h | h
          · exact h.2
          · rw [h]; exact hf a ha h2)
      exact ⟨k', o', by rw [drop_at hk, freeR, if_neg k3, if_neg (by rintro (h | h); exact k1 h; cases h), if_neg (by omega), ← e1, i1], by omega, i3, i4, i5, i6, hR.trans i7, fun j h1 h2 => by
        rcases Nat.eq_or_lt_of_le h1 with rfl | h1
        · exact k1
        · exact i8 j h1 h2, fun h => absurd h k1⟩
theorem free_drop {A : List Act} {q : Int} (hq : 0 ≤ q) (hA : rgtR [] false A = true) : ∀ (m k : Nat) (o : List Int), A.length - k ≤ m → k ≤ A.length → OwH q o (hAt A k) → o.length = 8 →
    ∃ k' o', freeR q false (A.drop k) k (hAt A k) o = (true, k', hAt A k', o') ∧ k ≤ k' ∧ k' ≤ A.length ∧ (k' < A.length → ¬ (A.getD k' Dat.d0).kind = 3) ∧ o'.length = 8 ∧ OwH q o' (hAt A k') ∧ OwR q o o' ∧ (∀ j, k ≤ j → j < k' → (A.getD j Dat.d0).kind = 3)
  | m, k, o, hm, hk, how, ho => by
    by_cases hk1 : k < A.length
    · by_cases k3 : (A.getD k Dat.d0).kind = 3
      · match m with
        | 0 => omega
        | m + 1 =>
        have hs := at_step hA hk1
        obtain ⟨hd, _, _⟩ := hAt_ok hA k (by omega)
        obtain ⟨r1, r2, r3⟩ := rgt_drop k3 hs
        have hn8 := ((hAt_ok hA k (by omega)).2.2 _ (mem_last r1)).1
        rw [r2] at hn8
        have e1 : hAt A (k + 1) = (hAt A k).take ((hAt A k).length - 1) := by rw [hAt_s hk1, if_pos k3]
        have hin : o.getD (A.getD k Dat.d0).n.toNat 0 = q + 1 := (how _ hn8.1 hn8.2).2 (by rw [← r2]; exact mem_last r1)
        have hR : OwR q o (o.set (A.getD k Dat.d0).n.toNat 0) := OwR.set (.inr hin) (.inl rfl)
        obtain ⟨k', o', i1, i2, i3, i4, i5, i6, i7, i8⟩ := free_drop hq hA m (k + 1) (o.set (A.getD k Dat.d0).n.toNat 0) (by omega) hk1 (by rw [e1]; exact how.drop hd r1 r2.symm hq ho hn8) (by rw [List.length_set]; exact ho)
        exact ⟨k', o', by rw [drop_at hk1, freeR, if_pos k3, ← e1, i1], by omega, i3, i4, i5, i6, hR.trans i7, fun j h1 h2 => by
          rcases Nat.eq_or_lt_of_le h1 with rfl | h1
          · exact k3
          · exact i8 j h1 h2⟩
      · exact ⟨k, o, by rw [drop_at hk1, freeR, if_neg k3, if_pos (.inr rfl)], Nat.le_refl _, hk, fun _ => k3, ho, how, .refl, fun j h1 h2 => by omega⟩
    · exact ⟨k, o, by rw [List.drop_eq_nil_of_le (by omega), freeR], Nat.le_refl _, hk, fun h => absurd h hk1, ho, how, .refl, fun j h1 h2 => by omega⟩

end Go.Proofs.Ythbdlihmafcioaa
