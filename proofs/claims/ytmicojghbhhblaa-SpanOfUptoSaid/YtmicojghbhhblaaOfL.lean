/- The program's functions, walked: OfL. -/
import Derived.Test.YtmicojghbhhblaaSpL
set_option linter.all false
namespace Go.Proofs.Ytmicojghbhhblaa
open Go Go.Abs
/- What is made of spans hangs on no order and no cuts. -/
theorem of_err {n : Int} {l : List Span} (h : ¬ (ofV n l).2 = 0) : (ofV n l).1 = ⟨0, []⟩ := by
  by_cases h1 : n < 1 ∨ 1000000 < n
  · rw [ofV_arg h1]
  by_cases h2 : 200 < l.length
  · rw [ofV_large h1 h2]
  cases h3 : ofN n l with
  | none => rw [ofV_none h1 h2 h3]
  | some o => rw [ofV_some h1 h2 h3] at h; exact absurd rfl h
theorem of_ok {n : Int} {l : List Span} (h : (ofV n l).2 = 0) : ∃ o, ofN n l = some o ∧ 1 ≤ n ∧ n ≤ 1000000 ∧ l.length ≤ 200 ∧ ofV n l = (⟨n, o⟩, 0) := by
  by_cases h1 : n < 1 ∨ 1000000 < n
  · rw [ofV_arg h1] at h; exact absurd h (by decide)
  by_cases h2 : 200 < l.length
  · rw [ofV_large h1 h2] at h; exact absurd h (by decide)
  cases h3 : ofN n l with
  | none => rw [ofV_none h1 h2 h3] at h; exact absurd h (by decide)
  | some o => exact ⟨o, rfl, by omega, by omega, by omega, ofV_some h1 h2 h3⟩
def swapL (v : List Span) (i j : Nat) : List Span := (v.set i (v.getD j Dat.d0)).set j (v.getD i Dat.d0)
theorem swapL_len {v : List Span} {i j : Nat} : (swapL v i j).length = v.length := by simp [swapL]
theorem swapL_perm {v : List Span} {i j : Nat} (hi : i < v.length) (hj : j < v.length) : (swapL v i j).Perm v := by
  rw [List.perm_iff_count]
  intro a
  unfold swapL
  rw [List.count_set (by rw [List.length_set]; exact hj), List.count_set hi]
  have gi : v.getD i Dat.d0 = v[i] := by rw [List.getD_eq_getElem?_getD, List.getElem?_eq_getElem hi]; rfl
  have gj : v.getD j Dat.d0 = v[j] := by rw [List.getD_eq_getElem?_getD, List.getElem?_eq_getElem hj]; rfl
  rw [List.getElem_set, gi, gj]
  have ci : (if (v[i] == a) = true then 1 else 0) ≤ v.count a := by
    split
    · rename_i h; rw [beq_iff_eq] at h; subst h; exact List.count_pos_iff.2 (List.getElem_mem hi)
    · exact Nat.zero_le _
  by_cases hij : i = j
  · subst hij; simp only [if_true]; omega
  · rw [if_neg hij]
    omega
theorem swap_gd {v : List Span} {i j : Nat} (hi : i < v.length) (hj : j < v.length) (k : Nat) : (swapL v i j).getD k Dat.d0 = bif decide (k = j) then v.getD i Dat.d0 else bif decide (k = i) then v.getD j Dat.d0 else v.getD k Dat.d0 := by
  unfold swapL
  rw [gd_set _ _ _ _ (by rw [List.length_set]; exact hj), gd_set _ _ _ _ hi]
def cutL (v : List Span) (i : Nat) (c : Int) : List Span := v.set i ⟨(v.getD i Dat.d0).frm, c⟩ ++ [⟨c, (v.getD i Dat.d0).to⟩]
theorem cut_val {v : List Span} {i n : Nat} {c : Int} (hn : n = v.length) (hi : i < v.length) :
    slV (α := Span) (.sl 2 (fun _ => n + 1) fun j => rowL 2 (fun _ => decide (j () < n)) (pickL (fun _ => decide (j () = i)) (splice 1 [.i .i64 fun _ => c] (Dat.enc fun _ => v.getD (j ()) Dat.d0)) (Dat.enc fun _ => v.getD (j ()) Dat.d0))
      [.i .i64 fun _ => c, .i .i64 fun _ => (v.getD i Dat.d0).to]) = cutL v i c := by
  subst hn
  have e := val_snoc (α := Span) (v.set i ⟨(v.getD i Dat.d0).frm, c⟩) [.i .i64 fun _ => c, .i .i64 fun _ => (v.getD i Dat.d0).to] 2 (v.length + 1) rfl (by rw [List.length_set]) ⟨trivial, trivial⟩
  refine Eq.trans ?_ e
  simp only [slV]
  refine lst_congr fun j hj => ?_
  rw [List.length_set, gd_set _ _ _ _ hi]
  show Span.mk (bif decide (j < v.length) then (bif decide (j = i) then (v.getD j Dat.d0).frm else (v.getD j Dat.d0).frm) else c) (bif decide (j < v.length) then (bif decide (j = i) then c else (v.getD j Dat.d0).to) else (v.getD i Dat.d0).to) = _
  by_cases h1 : j < v.length
  · by_cases h2 : j = i
    · subst h2; simp [h1]; rfl
    · simp [h1, h2]; rfl
  · simp [h1]; rfl
theorem cut_split {v : List Span} {i : Nat} (hi : i < v.length) (x : Span) : v.set i x = v.take i ++ x :: v.drop (i + 1) ∧ v = v.take i ++ v.getD i Dat.d0 :: v.drop (i + 1) := by
  refine ⟨?_, ?_⟩
  · rw [List.set_eq_take_append_cons_drop, if_pos hi]
  · rw [← drop_cons Dat.d0 hi, List.take_append_drop]
theorem cut_in {v : List Span} {i : Nat} {c : Int} (hi : i < v.length) (h1 : (v.getD i Dat.d0).frm < c) (h2 : c < (v.getD i Dat.d0).to) (t : Int) : inB (cutL v i c) t = inB v t := by
  obtain ⟨e1, e2⟩ := cut_split hi ⟨(v.getD i Dat.d0).frm, c⟩
  unfold cutL
  rw [e1]
  conv => rhs; rw [e2]
  rw [inB_app, inB_app, inB_cons, inB_app, inB_cons, inB_cons]
  generalize inB (v.take i) t = p
  generalize inB (v.drop (i + 1)) t = q
  have : inB ([] : List Span) t = false := rfl
  rw [this, Bool.eq_iff_iff]
  simp only [Bool.or_eq_true, Bool.and_eq_true, decide_eq_true_eq, Bool.or_false]
  constructor
  · rintro ((h | h | h) | h)
    · exact .inl h
    · exact .inr (.inl (by omega))
    · exact .inr (.inr h)
    · exact .inr (.inl (by omega))
  · rintro (h | h | h)
    · exact .inl (.inl h)
    · by_cases hc : t < c
      · exact .inl (.inr (.inl (by omega)))
      · exact .inr (by omega)
    · exact .inl (.inr (.inr h))
theorem cut_bad {v : List Span} {i : Nat} {c n : Int} (hi : i < v.length) (h1 : (v.getD i Dat.d0).frm < c) (h2 : c < (v.getD i Dat.d0).to) (hv : ∀ x ∈ v, ¬ badS n x) : ∀ x ∈ cutL v i c, ¬ badS n x := by
  have hb := hv (v.getD i Dat.d0) (by rw [List.getD_eq_getElem?_getD, List.getElem?_eq_getElem hi]; exact List.getElem_mem hi)
  unfold badS at hb
  intro x hx
  unfold cutL at hx
  rcases List.mem_append.1 hx with hx | hx
  · rcases List.mem_or_eq_of_mem_set hx with hx | hx
    · exact hv x hx
    · subst hx; unfold badS; dsimp only; omega
  · rw [List.mem_singleton] at hx
    subst hx; unfold badS; dsimp only; omega
theorem of_right {n : Int} {r : List Span} (h : (ofV n r).2 = 0) : Right (ofV n r).1 ∧ (ofV n r).1.size = n ∧ (∀ x ∈ r, ¬ badS n x) ∧ (∀ t, inB (ofV n r).1.spans t = inB r t) := by
  obtain ⟨o, h1, h2, h3, h4, h5⟩ := of_ok h
  have hb : ∀ x ∈ r, ¬ badS n x := fun x hx hx' => by rw [ofN_bad ⟨x, hx, hx'⟩] at h1; cases h1
  obtain ⟨o', k1, k2, k3, k4⟩ := ofN_ok hb
  have : o' = o := Option.some.inj (k1.symm.trans h1)
  subst this
  rw [h5]
  exact ⟨⟨h2, h3, Nat.le_trans k4 h4, k2⟩, rfl, hb, k3⟩
theorem of_same {n : Int} {r m : List Span} (h : (ofV n r).2 = 0) (hm : m.length ≤ 200) (hb : ∀ x ∈ m, ¬ badS n x) (hi : ∀ t, inB m t = inB r t) : ofV n m = ofV n r := by
  obtain ⟨o, h1, h2, h3, h4, h5⟩ := of_ok h
  have hb' := (of_right h).2.2.1
  obtain ⟨o1, k1, k2, k3, k4⟩ := ofN_ok hb'
  obtain ⟨o2, l1, l2, l3, l4⟩ := ofN_ok hb
  have e : o2 = o1 := norm_unique l2 k2 fun t => by rw [l3, k3, hi]
  have e2 : o1 = o := Option.some.inj (k1.symm.trans h1)
  subst e
  subst e2
  rw [h5]
  exact ofV_some (by omega) (by omega) l1
theorem of_again {n : Int} {r : List Span} (h : (ofV n r).2 = 0) : ofV n (ofV n r).1.spans = ofV n r := by
  obtain ⟨hr, hs, hb, hin⟩ := of_right h
  refine of_same h hr.len (fun x hx => ?_) hin
  have := (okSp_bd hr.ok).2.2 x hx
  rw [hs] at this
  unfold badS
  omega
theorem of_perm {n : Int} {r v : List Span} (h : (ofV n r).2 = 0) (hv : v.Perm r) : ofV n v = ofV n r := by
  obtain ⟨o, h1, h2, h3, h4, h5⟩ := of_ok h
  exact of_same h (by rw [hv.length_eq]; exact h4) (fun x hx => (of_right h).2.2.1 x (hv.mem_iff.1 hx)) fun t => inB_perm hv t
theorem of_cut {n : Int} {r v : List Span} {i : Nat} {c : Int} (h : (ofV n r).2 = 0) (hv : v.Perm r) (hl : v.length < 200) (hi : i < v.length) (h1 : (v.getD i Dat.d0).frm < c) (h2 : c < (v.getD i Dat.d0).to) : ofV n (cutL v i c) = ofV n r :=
  of_same h (by unfold cutL; rw [List.length_append, List.length_set]; exact hl) (cut_bad hi h1 h2 fun x hx => (of_right h).2.2.1 x (hv.mem_iff.1 hx)) fun t => by rw [cut_in hi h1 h2, inB_perm hv t]
theorem ok_cut {v : List Span} {i j : Nat} {n : Nat} {c t : Int} : Dat.ok Span (rowL 2 (fun _ => decide (j < n)) (pickL (fun _ => decide (j = i)) (splice 1 [.i .i64 fun _ => c] (Dat.enc fun _ => v.getD j Dat.d0)) (Dat.enc fun _ => v.getD j Dat.d0))
      [.i .i64 fun _ => c, .i .i64 fun _ => t]) := ⟨trivial, trivial⟩

end Go.Proofs.Ytmicojghbhhblaa
