/- The plain laws of wants. -/
import Derived.Test.YtnjngpjkhddnfaaGreatDoorMake
import Derived.Test.YtnjngpjkhddnfaaGreatDoorDel
set_option linter.all false
namespace Go.Proofs.YtnjngpjkhddnfaaGreatDoor
open Go Go.Abs

theorem okW_low {f : Int} : ∀ {l : List Window} {e e' : Int}, e' ≤ e → okW f e l = true → okW f e' l = true
 | [], _, _, _, _ => rfl
 | w :: r, e, e', he, h => by
   rw [okW, Bool.and_eq_true] at *
   have hw := winB_iff.1 h.1
   exact ⟨winB_iff.2 (by omega), h.2⟩
theorem okW_sub {f : Int} {m l : List Window} (hs : m.Sublist l) : ∀ {e : Int}, okW f e l = true → okW f e m = true := by
 induction hs with
 | slnil => intro e h; exact h
 | cons a _ ih =>
   intro e h
   rw [okW, Bool.and_eq_true] at h
   have hw := winB_iff.1 h.1
   exact okW_low (by omega) (ih h.2)
 | cons_cons a _ ih =>
   intro e h
   rw [okW, Bool.and_eq_true] at *
   exact ⟨h.1, ih h.2⟩
theorem genL_app {size : Int} {b : List Want} : ∀ {a : List Want}, genL size (a ++ b) = genL size a ++ genL size b
 | [] => by simp [genL]
 | x :: r => by rw [List.cons_append, genL, genL, genL_app, List.append_assoc]
theorem genL_perm {size : Int} {a b : List Want} (h : a.Perm b) : (genL size a).Perm (genL size b) := by
 induction h with
 | nil => exact List.Perm.refl _
 | cons x _ ih => rw [genL, genL]; exact ih.append_left _
 | swap x y l =>
   rw [genL, genL, genL, genL, ← List.append_assoc, ← List.append_assoc]
   exact List.perm_append_comm.append_right _
 | trans _ _ i1 i2 => exact i1.trans i2
theorem sumQ_perm {size : Int} {a b : List Want} (h : a.Perm b) : sumQ size a = sumQ size b := by
 induction h with
 | nil => rfl
 | cons x _ ih => rw [sumQ, sumQ, ih]
 | swap x y l => rw [sumQ, sumQ, sumQ, sumQ]; omega
 | trans _ _ i1 i2 => rw [i1, i2]
structure MkOk (size : Int) (l : List Want) : Prop where
 s : sizeB size = true
 len : l.length ≤ 200
 all : l.all (wantB size) = true
 sum : sumQ size l ≤ 200
 rt : RightT ⟨size, sortWl (genL size l)⟩
theorem make_rt {size : Int} {l : List Want} (h : (makeV size l).2 = 0) : MkOk size l := by
 unfold makeV at h
 by_cases h1 : ¬ sizeB size = true
 · rw [if_pos h1] at h; exact absurd h (by decide)
 · rw [if_neg h1] at h
   by_cases h2 : 200 < l.length
   · rw [if_pos h2] at h; exact absurd h (by decide)
   · rw [if_neg h2] at h
     by_cases h3 : ¬ l.all (wantB size) = true
     · rw [if_pos h3] at h; exact absurd h (by decide)
     · rw [if_neg h3] at h
       by_cases h4 : 200 < sumQ size l
       · rw [if_pos h4] at h; exact absurd h (by decide)
       · rw [if_neg h4] at h
         by_cases h5 : wchkV ⟨size, sortWl (genL size l)⟩ = 0
         · exact ⟨Decidable.not_not.1 h1, by omega, Decidable.not_not.1 h3, by omega, wchk_iff.1 h5⟩
         · rw [if_neg h5] at h; exact absurd h (by decide)
theorem make_go {size : Int} {l : List Want} (h : MkOk size l) : makeV size l = (⟨size, sortWl (genL size l)⟩, 0) := by
 rw [makeV, if_neg (fun q => q h.s), if_neg (by have := h.len; omega), if_neg (fun q => q h.all), if_neg (by have := h.sum; omega), if_pos (wchk_iff.2 h.rt)]
theorem make_perm {size : Int} {l m : List Want} (h : MkOk size l) (hp : m.Perm l) : makeV size m = makeV size l := by
 have e : sortWl (genL size l) = sortWl (genL size m) := uniqW ((List.mergeSort_perm _ _).trans ((genL_perm hp).symm.trans (List.mergeSort_perm _ _).symm)) (okW_strict h.rt.ok) (sortWl_pw _)
 have hm : MkOk size m := ⟨h.s, by rw [hp.length_eq]; exact h.len, by
   rw [List.all_eq_true]; exact fun x hx => List.all_eq_true.1 h.all x (hp.mem_iff.1 hx), by rw [sumQ_perm hp]; exact h.sum, by rw [← e]; exact h.rt⟩
 rw [make_go hm, make_go h, e]
theorem nodupW {l : List Window} (h : l.Pairwise fun a b => a.frm < b.frm) : l.Nodup := h.imp fun h e => by subst e; omega
theorem make_less {size : Int} {l m : List Want} {w : Want} (h : MkOk size l) (hp : l.Perm (w :: m)) : MkOk size m ∧ (∀ z, z ∈ sortWl (genL size m) → z ∈ sortWl (genL size l)) ∧ ∀ z, z ∈ genN size w 0 → z ∉ sortWl (genL size m) := by
 have hg : (genL size l).Perm (genN size w 0 ++ genL size m) := genL_perm hp
 have hnS := nodupW (okW_strict h.rt.ok)
 have hnL : (genL size l).Nodup := (List.mergeSort_perm _ _).nodup_iff.1 hnS
 have hnA := hg.nodup_iff.1 hnL
 have hnM : (genL size m).Nodup := (List.nodup_append.1 hnA).2.1
 have hsub : ((sortWl (genL size l)).filter fun z => decide (z ∈ genL size m)).Sublist (sortWl (genL size l)) := List.filter_sublist
 have hperm : ((sortWl (genL size l)).filter fun z => decide (z ∈ genL size m)).Perm (genL size m) := by
   refine (List.perm_ext_iff_of_nodup (hnS.sublist hsub) hnM).2 fun z => ?_
   rw [List.mem_filter, decide_eq_true_eq]
   refine ⟨fun q => q.2, fun q => ⟨?_, q⟩⟩
   exact (List.mergeSort_perm _ _).mem_iff.2 (hg.mem_iff.2 (List.mem_append_right _ q))
 have hok := okW_sub hsub h.rt.ok
 have e : ((sortWl (genL size l)).filter fun z => decide (z ∈ genL size m)) = sortWl (genL size m) := uniqW (hperm.trans (List.mergeSort_perm _ _).symm) (okW_strict hok) (sortWl_pw _)
 have hlen := hsub.length_le
 rw [e] at hok hsub hlen
 have hs : 1 ≤ size ∧ size ≤ 1000000 := ⟨h.rt.s1, h.rt.s2⟩
 have hall : m.all (wantB size) = true := by
   rw [List.all_eq_true]; exact fun x hx => List.all_eq_true.1 h.all x (hp.mem_iff.2 (List.mem_cons_of_mem _ hx))
 have hww := quoW hs.1 hs.2 (List.all_eq_true.1 h.all w (hp.mem_iff.2 (List.mem_cons_self ..)))
 have hsum := sumQ_perm (size := size) hp
 rw [sumQ] at hsum
 have hle := hp.length_eq
 rw [List.length_cons] at hle
 refine ⟨⟨h.s, by have := h.len; omega, hall, by have := h.sum; omega, ⟨h.rt.s1, h.rt.s2, Nat.le_trans hlen h.rt.len, hok⟩⟩, fun z hz => hsub.subset hz, fun z hz hz2 => ?_⟩
 have hz2 := (List.mergeSort_perm _ _).mem_iff.1 hz2
 exact (List.nodup_append.1 hnA).2.2 z hz z hz2 rfl
theorem make_len (size : Int) (l : List Want) : (makeV size l).1.windows.length ≤ 9223372036854775807 := by
 by_cases h : (makeV size l).2 = 0
 · have hm := make_rt h
   rw [make_go hm]
   have := hm.rt.len
   exact Nat.le_trans this (by decide)
 · unfold makeV at *
   split
   · exact Nat.zero_le _
   · rename_i h1
     rw [if_neg h1] at h
     split
     · exact Nat.zero_le _
     · rename_i h2
       rw [if_neg h2] at h
       split
       · exact Nat.zero_le _
       · rename_i h3
         rw [if_neg h3] at h
         split
         · exact Nat.zero_le _
         · rename_i h4
           rw [if_neg h4] at h
           split
           · rename_i h5; rw [if_pos h5] at h; exact absurd rfl h
           · exact Nat.zero_le _

end Go.Proofs.YtnjngpjkhddnfaaGreatDoor
