/- The plain laws of wants. -/
import Derived.Test.YtadjemhbfaonbaaTabL
import Derived.Test.YtadjemhbfaonbaaDel
set_option linter.all false
namespace Go.Proofs.Ytadjemhbfaonbaa
open Go Go.Abs

theorem at_in {f x : Int} : ∀ {l : List Window} {e : Int} {w : Window}, okW f e l = true → w ∈ l → w.frm ≤ x → x < w.frm + w.long → (atW f x l).1 = w.owner
  | y :: r, e, w, h, hw, h1, h2 => by
    rw [okW, Bool.and_eq_true] at h
    have hy := winB_iff.1 h.1
    rw [atW]
    rcases List.mem_cons.1 hw with rfl | hw
    · rw [if_neg (by omega), if_pos h2]
    · have := okW_ge h.2 w hw
      rw [if_neg (by omega), if_neg (by omega)]
      exact at_in h.2 hw h1 h2
theorem at_out {f x : Int} : ∀ {l : List Window}, (∀ w ∈ l, ¬ (w.frm ≤ x ∧ x < w.frm + w.long)) → (atW f x l).1 = -1
  | [], _ => rfl
  | y :: r, h => by
    have h1 := h y (List.mem_cons_self ..)
    rw [atW]
    by_cases h2 : x < y.frm
    · rw [if_pos h2]
    · rw [if_neg h2, if_neg (by omega)]
      exact at_out fun w hw => h w (List.mem_cons_of_mem _ hw)
theorem at_one {f x : Int} : ∀ {l : List Window} {e : Int} {w z : Window}, okW f e l = true → w ∈ l → z ∈ l → w.frm ≤ x → x < w.frm + w.long → z.frm ≤ x → x < z.frm + z.long → w = z
  | y :: r, e, w, z, h, hw, hz, a1, a2, b1, b2 => by
    rw [okW, Bool.and_eq_true] at h
    have hy := winB_iff.1 h.1
    rcases List.mem_cons.1 hw with rfl | hw'
    · rcases List.mem_cons.1 hz with rfl | hz
      · rfl
      · have := okW_ge h.2 z hz; omega
    · rcases List.mem_cons.1 hz with hz | hz
      · subst hz
        have := okW_ge h.2 w (by assumption); omega
      · exact at_one h.2 (by assumption) hz a1 a2 b1 b2
theorem okW_low {f : Int} : ∀ {l : List Window} {e e' : Int}, e' ≤ e → okW f e l = true → okW f e' l = true
  | [], _, _, _, _ => rfl
  | w :: r, e, e', he, h => by
    rw [okW, Bool.and_eq_true] at *
    have hw := winB_iff.1 h.1
    exact ⟨winB_iff.2 (by omega), h.2⟩
theorem okW_sub {f : Int} {m l : List Window} (hs : m.Sublist l) : ∀ {e : Int}, okW f e l = true → okW f e m = true := by
  induction hs with
  | slnil => intro e h; exact h
  | cons a _ ih =>
    intro e h
    rw [okW, Bool.and_eq_true] at h
    have hw := winB_iff.1 h.1
    exact okW_low (by omega) (ih h.2)
  | cons_cons a _ ih =>
    intro e h
    rw [okW, Bool.and_eq_true] at *
    exact ⟨h.1, ih h.2⟩
theorem genF_in {size : Int} {w : Want} (he : 1 ≤ w.every) : ∀ {f : Nat} {k : Int} {j : Nat}, (size - k).toNat ≤ f → k + j * w.every < size → (⟨k + j * w.every + w.frm, w.long, w.owner⟩ : Window) ∈ genF size w f k
  | 0, k, j, hf, hb => by
    have := Int.mul_nonneg (show 0 ≤ (j : Int) by omega) (show 0 ≤ w.every by omega)
    omega
  | f + 1, k, 0, hf, hb => by
    simp only [Int.natCast_zero, Int.zero_mul, Int.add_zero] at *
    rw [genF, if_pos hb]; exact List.mem_cons_self ..
  | f + 1, k, j + 1, hf, hb => by
    have := Int.mul_nonneg (show 0 ≤ (j : Int) by omega) (show 0 ≤ w.every by omega)
    rw [Int.natCast_add, Int.add_mul, Int.natCast_one, Int.one_mul] at *
    rw [genF, if_pos (by omega)]
    have := genF_in (size := size) (w := w) (f := f) (k := k + w.every) (j := j) he (by omega) (by omega)
    rw [show k + ((j : Int) * w.every + w.every) = k + w.every + j * w.every by omega]
    exact List.mem_cons_of_mem _ this
theorem genL_app {size : Int} {b : List Want} : ∀ {a : List Want}, genL size (a ++ b) = genL size a ++ genL size b
  | [] => by simp [genL]
  | x :: r => by rw [List.cons_append, genL, genL, genL_app, List.append_assoc]
theorem genL_perm {size : Int} {a b : List Want} (h : a.Perm b) : (genL size a).Perm (genL size b) := by
  induction h with
  | nil => exact List.Perm.refl _
  | cons x _ ih => rw [genL, genL]; exact ih.append_left _
  | swap x y l =>
    rw [genL, genL, genL, genL, ← List.append_assoc, ← List.append_assoc]
    exact List.perm_append_comm.append_right _
  | trans _ _ i1 i2 => exact i1.trans i2
theorem sumQ_perm {size : Int} {a b : List Want} (h : a.Perm b) : sumQ size a = sumQ size b := by
  induction h with
  | nil => rfl
  | cons x _ ih => rw [sumQ, sumQ, ih]
  | swap x y l => rw [sumQ, sumQ, sumQ, sumQ]; omega
  | trans _ _ i1 i2 => rw [i1, i2]
theorem sumQ_app {size : Int} {b : List Want} : ∀ {a : List Want}, sumQ size (a ++ b) = sumQ size a + sumQ size b
  | [] => by simp [sumQ]
  | x :: r => by rw [List.cons_append, sumQ, sumQ, sumQ_app]; omega
structure MkOk (size : Int) (l : List Want) : Prop where
  s : sizeB size = true
  len : l.length ≤ 200
  all : l.all (wantB size) = true
  sum : sumQ size l ≤ 200
  rt : RightT ⟨size, sortWl (genL size l)⟩
theorem make_rt {size : Int} {l : List Want} (h : (makeV size l).2 = 0) : MkOk size l := by
  unfold makeV at h
  by_cases h1 : ¬ sizeB size = true
  · rw [if_pos h1] at h; exact absurd h (by decide)
  · rw [if_neg h1] at h
    by_cases h2 : 200 < l.length
    · rw [if_pos h2] at h; exact absurd h (by decide)
    · rw [if_neg h2] at h
      by_cases h3 : ¬ l.all (wantB size) = true
      · rw [if_pos h3] at h; exact absurd h (by decide)
      · rw [if_neg h3] at h
        by_cases h4 : 200 < sumQ size l
        · rw [if_pos h4] at h; exact absurd h (by decide)
        · rw [if_neg h4] at h
          by_cases h5 : wchkV ⟨size, sortWl (genL size l)⟩ = 0
          · exact ⟨Decidable.not_not.1 h1, by omega, Decidable.not_not.1 h3, by omega, wchk_iff.1 h5⟩
          · rw [if_neg h5] at h; exact absurd h (by decide)
theorem make_go {size : Int} {l : List Want} (h : MkOk size l) : makeV size l = (⟨size, sortWl (genL size l)⟩, 0) := by
  rw [makeV, if_neg (fun q => q h.s), if_neg (by have := h.len; omega), if_neg (fun q => q h.all), if_neg (by have := h.sum; omega), if_pos (wchk_iff.2 h.rt)]
theorem make_perm {size : Int} {l m : List Want} (h : MkOk size l) (hp : m.Perm l) : makeV size m = makeV size l := by
  have e : sortWl (genL size l) = sortWl (genL size m) := uniqW ((List.mergeSort_perm _ _).trans ((genL_perm hp).symm.trans (List.mergeSort_perm _ _).symm)) (okW_strict h.rt.ok) (sortWl_pw _)
  have hm : MkOk size m := ⟨h.s, by rw [hp.length_eq]; exact h.len, by
    rw [List.all_eq_true]; exact fun x hx => List.all_eq_true.1 h.all x (hp.mem_iff.1 hx), by rw [sumQ_perm hp]; exact h.sum, by rw [← e]; exact h.rt⟩
  rw [make_go hm, make_go h, e]
theorem nodupW {l : List Window} (h : l.Pairwise fun a b => a.frm < b.frm) : l.Nodup := h.imp fun h e => by subst e; omega
theorem make_less {size : Int} {l m : List Want} {w : Want} (h : MkOk size l) (hp : l.Perm (w :: m)) : MkOk size m ∧ (∀ z, z ∈ sortWl (genL size m) → z ∈ sortWl (genL size l)) ∧ ∀ z, z ∈ genN size w 0 → z ∉ sortWl (genL size m) := by
  have hg : (genL size l).Perm (genN size w 0 ++ genL size m) := genL_perm hp
  have hnS := nodupW (okW_strict h.rt.ok)
  have hnL : (genL size l).Nodup := (List.mergeSort_perm _ _).nodup_iff.1 hnS
  have hnA := hg.nodup_iff.1 hnL
  have hnM : (genL size m).Nodup := (List.nodup_append.1 hnA).2.1
  have hsub : ((sortWl (genL size l)).filter fun z => decide (z ∈ genL size m)).Sublist (sortWl (genL size l)) := List.filter_sublist
  have hperm : ((sortWl (genL size l)).filter fun z => decide (z ∈ genL size m)).Perm (genL size m) := by
    refine (List.perm_ext_iff_of_nodup (hnS.sublist hsub) hnM).2 fun z => ?_
    rw [List.mem_filter, decide_eq_true_eq]
    refine ⟨fun q => q.2, fun q => ⟨?_, q⟩⟩
    exact (List.mergeSort_perm _ _).mem_iff.2 (hg.mem_iff.2 (List.mem_append_right _ q))
  have hok := okW_sub hsub h.rt.ok
  have e : ((sortWl (genL size l)).filter fun z => decide (z ∈ genL size m)) = sortWl (genL size m) := uniqW (hperm.trans (List.mergeSort_perm _ _).symm) (okW_strict hok) (sortWl_pw _)
  have hlen := hsub.length_le
  rw [e] at hok hsub hlen
  have hs : 1 ≤ size ∧ size ≤ 1000000 := ⟨h.rt.s1, h.rt.s2⟩
  have hall : m.all (wantB size) = true := by
    rw [List.all_eq_true]; exact fun x hx => List.all_eq_true.1 h.all x (hp.mem_iff.2 (List.mem_cons_of_mem _ hx))
  have hww := quoW hs.1 hs.2 (List.all_eq_true.1 h.all w (hp.mem_iff.2 (List.mem_cons_self ..)))
  have hsum := sumQ_perm (size := size) hp
  rw [sumQ] at hsum
  have hle := hp.length_eq
  rw [List.length_cons] at hle
  refine ⟨⟨h.s, by have := h.len; omega, hall, by have := h.sum; omega, ⟨h.rt.s1, h.rt.s2, Nat.le_trans hlen h.rt.len, hok⟩⟩, fun z hz => hsub.subset hz, fun z hz hz2 => ?_⟩
  have hz2 := (List.mergeSort_perm _ _).mem_iff.1 hz2
  exact (List.nodup_append.1 hnA).2.2 z hz z hz2 rfl
theorem want_at {size : Int} {w : Want} {round x : Int} (hs : 1 ≤ size ∧ size ≤ 1000000) (hw : wantB size w = true) (r0 : 0 ≤ round) (r1 : round ≤ 1000000) (x0 : 0 ≤ x) (x1 : x < w.long) :
    0 ≤ round * w.every ∧ round * w.every ≤ 1000000000000 ∧ ∃ z ∈ genN size w 0, z.owner = w.owner ∧ z.frm ≤ (round * w.every + w.frm + x).tmod size ∧ (round * w.every + w.frm + x).tmod size < z.frm + z.long := by
  obtain ⟨-, a1, a2, a3, a4, a5, a6, a7⟩ := wantB_iff.1 hw
  have b1 := Int.mul_nonneg r0 (show 0 ≤ w.every by omega)
  have b2 := Int.mul_le_mul r1 (show w.every ≤ 1000000 by omega) (by omega) (by omega)
  refine ⟨b1, by omega, ?_⟩
  obtain ⟨q, hq⟩ := Int.dvd_of_tmod_eq_zero a3
  have hq1 : 1 ≤ q := by
    rcases Int.lt_or_le 0 q with h | h
    · omega
    · have := Int.mul_le_mul_of_nonneg_left h (show 0 ≤ w.every by omega)
      rw [Int.mul_zero] at this; omega
  have c1 := Int.emod_nonneg round (show q ≠ 0 by omega)
  have c2 := Int.emod_lt_of_pos round (show 0 < q by omega)
  have c3 := Int.emod_add_mul_ediv round q
  have d1 := Int.mul_nonneg c1 (show 0 ≤ w.every by omega)
  have d2 : round % q * w.every ≤ (q - 1) * w.every := Int.mul_le_mul_of_nonneg_right (by omega) (by omega)
  rw [Int.sub_mul, Int.one_mul, Int.mul_comm q, ← hq] at d2
  have em : (round * w.every + w.frm + x).tmod size = round % q * w.every + w.frm + x := by
    rw [Int.tmod_eq_emod_of_nonneg (by omega)]
    have e : round * w.every + w.frm + x = (round % q * w.every + w.frm + x) + size * (round / q) := by
      have e2 : round * w.every = (round % q + q * (round / q)) * w.every := by rw [c3]
      rw [e2, Int.add_mul, hq, show q * (round / q) * w.every = w.every * q * (round / q) by rw [Int.mul_comm, ← Int.mul_assoc]]
      omega
    rw [e, Int.add_mul_emod_self_left, Int.emod_eq_of_lt (by omega) (by omega)]
  have hin := genF_in (size := size) (w := w) a1 (f := (size - 0).toNat) (k := 0) (j := (round % q).toNat) (Nat.le_refl _) (by rw [show ((round % q).toNat : Int) = round % q by omega]; omega)
  rw [show ((round % q).toNat : Int) = round % q by omega] at hin
  refine ⟨_, hin, rfl, ?_, ?_⟩
  · rw [em]; show 0 + round % q * w.every + w.frm ≤ _; omega
  · rw [em]; show _ < 0 + round % q * w.every + w.frm + w.long; omega
theorem delU_perm {l : List Want} {i : Nat} (hi : i < l.length) : l.Perm (l.getD i Dat.d0 :: delU l i (i + 1)) := by
  have e : l = l.take i ++ l.getD i Dat.d0 :: l.drop (i + 1) := by
    rw [← drop_cons Dat.d0 hi, List.take_append_drop]
  unfold delU
  exact (List.Perm.of_eq e).trans List.perm_middle
structure WantsOk (size : Int) (l : List Want) (i : Nat) (X : Int) : Prop where
  own : ownerV (makeV size l).1 X = ((l.getD i Dat.d0).owner, 0)
  rev : makeV size l.reverse = makeV size l
  del : (makeV size (delU l i (i + 1))).2 = 0
  non : ownerV (makeV size (delU l i (i + 1))).1 X = (-1, 0)
theorem wants_ok {size : Int} {l : List Want} {i : Nat} {round x : Int} (h : (makeV size l).2 = 0) (hi : i < l.length) (r0 : 0 ≤ round) (r1 : round ≤ 1000000) (x0 : 0 ≤ x) (x1 : x < (l.getD i Dat.d0).long) :
    0 ≤ round * (l.getD i Dat.d0).every ∧ round * (l.getD i Dat.d0).every ≤ 1000000000000 ∧ 0 ≤ (l.getD i Dat.d0).frm ∧ (l.getD i Dat.d0).frm ≤ 1000000 ∧ x ≤ 1000000 ∧ WantsOk size l i (round * (l.getD i Dat.d0).every + (l.getD i Dat.d0).frm + x) := by
  have hm := make_rt h
  have hs : 1 ≤ size ∧ size ≤ 1000000 := ⟨hm.rt.s1, hm.rt.s2⟩
  have hw := wk_get hi hm.all
  have hp := delU_perm hi
  obtain ⟨-, a1, a2, a3, a4, a5, a6, a7⟩ := wantB_iff.1 hw
  obtain ⟨b1, b2, z, hz, z1, z2, z3⟩ := want_at hs hw r0 r1 x0 x1
  have hzl : z ∈ sortWl (genL size l) := (List.mergeSort_perm _ _).mem_iff.2 ((genL_perm hp).mem_iff.2 (List.mem_append_left _ hz))
  obtain ⟨d1, d2, d3⟩ := make_less hm hp
  refine ⟨b1, b2, a6, by omega, by omega, ⟨?_, make_perm hm (List.reverse_perm l), by rw [make_go d1], ?_⟩⟩
  · rw [make_go hm, ownerV, if_pos (wchk_iff.2 hm.rt), if_neg (by omega)]
    have := at_in hm.rt.ok hzl z2 z3
    show ((atW size _ _).1, (0 : Int)) = _
    rw [this, z1]
  · rw [make_go d1, ownerV, if_pos (wchk_iff.2 d1.rt), if_neg (by omega)]
    have := at_out (f := size) (x := (round * (l.getD i Dat.d0).every + (l.getD i Dat.d0).frm + x).tmod size) (l := sortWl (genL size (delU l i (i + 1)))) fun v hv q => by
      have e := at_one hm.rt.ok hzl (d2 v hv) z2 z3 q.1 q.2
      subst e
      exact d3 z hz hv
    show ((atW size _ _).1, (0 : Int)) = _
    rw [this]
theorem make_len (size : Int) (l : List Want) : (makeV size l).1.windows.length ≤ 9223372036854775807 := by
  by_cases h : (makeV size l).2 = 0
  · have hm := make_rt h
    rw [make_go hm]
    have := hm.rt.len
    exact Nat.le_trans this (by decide)
  · unfold makeV at *
    split
    · exact Nat.zero_le _
    · rename_i h1
      rw [if_neg h1] at h
      split
      · exact Nat.zero_le _
      · rename_i h2
        rw [if_neg h2] at h
        split
        · exact Nat.zero_le _
        · rename_i h3
          rw [if_neg h3] at h
          split
          · exact Nat.zero_le _
          · rename_i h4
            rw [if_neg h4] at h
            split
            · rename_i h5; rw [if_pos h5] at h; exact absurd rfl h
            · exact Nat.zero_le _

end Go.Proofs.Ytadjemhbfaonbaa
