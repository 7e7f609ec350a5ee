/- With jobs less, or wants of others less, what fitted fits still, plain. -/
import Derived.Test.YtnjngpjkhddnfaaGreatDoorConf4
import Derived.Test.YtnjngpjkhddnfaaGreatDoorLessP
import Derived.Test.YtnjngpjkhddnfaaGreatDoorDel
set_option linter.all false
namespace Go.Proofs.YtnjngpjkhddnfaaGreatDoor
open Go Go.Abs

def keepW (o : Int) (l : List Want) : List Want := l.filter fun w => decide (w.owner = o)
theorem make_keep {size : Int} {b : List Want} : ∀ {a : List Want}, MkOk size (a ++ b) → MkOk size b
 | [], h => h
 | x :: r, h => make_keep (make_less (w := x) (m := r ++ b) h (List.Perm.refl _)).1
theorem keep_perm (o : Int) (l : List Want) : (l.filter (fun w => !decide (w.owner = o)) ++ keepW o l).Perm l :=
 List.perm_append_comm.trans (List.filter_append_perm (fun w : Want => decide (w.owner = o)) l)
theorem mk_perm {size : Int} {l m : List Want} (h : MkOk size l) (hp : m.Perm l) : MkOk size m := make_rt (by rw [make_perm h hp, make_go h])
theorem keep_ok {size o : Int} {l : List Want} (h : MkOk size l) : MkOk size (keepW o l) := make_keep (mk_perm h (keep_perm o l))
theorem genF_own {size : Int} {w : Want} : ∀ {f : Nat} {k : Int}, ∀ z ∈ genF size w f k, z.owner = w.owner
 | 0, _, z, h => by rw [genF] at h; cases h
 | f + 1, k, z, h => by
   rw [genF] at h
   split at h
   · rcases List.mem_cons.1 h with h | h
     · rw [h]
     · exact genF_own z h
   · cases h
theorem genL_own {size : Int} : ∀ {l : List Want}, ∀ z ∈ genL size l, ∃ w ∈ l, z.owner = w.owner
 | [], z, h => by rw [genL] at h; cases h
 | w :: r, z, h => by
   rw [genL] at h
   rcases List.mem_append.1 h with h | h
   · exact ⟨w, List.mem_cons_self .., genF_own z h⟩
   · obtain ⟨v, hv, e⟩ := genL_own z h
     exact ⟨v, List.mem_cons_of_mem _ hv, e⟩
theorem tmL_filt {o : Int} : ∀ {l : List Window}, tmL o l = tmL o (l.filter fun w => decide (w.owner = o))
 | [] => rfl
 | w :: r => by
   rw [tmL]
   by_cases h : w.owner = o
   · rw [if_pos h, List.filter_cons_of_pos (by simpa using h), tmL, if_pos h, ← tmL_filt]
   · rw [if_neg h, List.filter_cons_of_neg (by simpa using h), ← tmL_filt]
theorem sort_keep {size o : Int} {l : List Want} (h : MkOk size l) : (sortWl (genL size l)).filter (fun w => decide (w.owner = o)) = sortWl (genL size (keepW o l)) := by
 refine uniqW ?_ ((okW_strict h.rt.ok).filter _) (sortWl_pw _)
 have h1 : (genL size l).Perm (genL size (l.filter fun w => !decide (w.owner = o)) ++ genL size (keepW o l)) := by
   rw [← genL_app]; exact genL_perm (keep_perm o l).symm
 have h2 := ((List.mergeSort_perm (genL size l) fun x y => decide (x.frm ≤ y.frm)).trans h1).filter fun w => decide (w.owner = o)
 rw [List.filter_append] at h2
 have e1 : (genL size (l.filter fun w => !decide (w.owner = o))).filter (fun w => decide (w.owner = o)) = [] := List.filter_eq_nil_iff.2 fun z hz => by
   obtain ⟨w, hw, e⟩ := genL_own z hz
   have := (List.mem_filter.1 hw).2
   rw [e]; simpa using this
 have e2 : (genL size (keepW o l)).filter (fun w => decide (w.owner = o)) = genL size (keepW o l) := List.filter_eq_self.2 fun z hz => by
   obtain ⟨w, hw, e⟩ := genL_own z hz
   rw [e]; exact (List.mem_filter.1 hw).2
 rw [e1, e2, List.nil_append] at h2
 exact h2.trans (List.mergeSort_perm _ _).symm
theorem times_keep {size o : Int} {l : List Want} (h : MkOk size l) : timesV ⟨size, sortWl (genL size (keepW o l))⟩ o = timesV ⟨size, sortWl (genL size l)⟩ o := by
 have k := keep_ok (o := o) h
 unfold timesV
 rw [if_pos (wchk_iff.2 h.rt), if_pos (wchk_iff.2 k.rt)]
 have e : tmL o (sortWl (genL size l)) = tmL o (sortWl (genL size (keepW o l))) := by rw [← sort_keep h, ← tmL_filt]
 rw [e]
theorem keep_pchk {p : Plan} {o : Int} (h : pchkV p = 0) : pchkV ⟨p.frame, keepW o p.wants, p.jobs⟩ = 0 := by
 obtain ⟨h1, ⟨h2, h3⟩, h4, h5⟩ := pchk_if.1 h
 have := List.length_filter_le (fun w : Want => decide (w.owner = o)) p.wants
 exact pchk_if.2 ⟨h1, ⟨Nat.le_trans this h2, h3⟩, List.all_eq_true.2 fun w hw => List.all_eq_true.1 h4 w (List.mem_filter.1 hw).1, h5⟩
theorem judge_go {p : Plan} (h : pchkV p = 0) (h2 : (makeV p.frame p.wants).2 = 0) : judgeV p = ((makeV p.frame p.wants).1, outB p (makeV p.frame p.wants).1 16, 0) := by
 rw [judgeV, if_pos h, if_pos h2]
theorem judge_is {p : Plan} (h : (judgeV p).2.2 = 0) : pchkV p = 0 ∧ (makeV p.frame p.wants).2 = 0 := by
 unfold judgeV at h
 split at h
 · rename_i c
   split at h
   · rename_i d; exact ⟨c, d⟩
   · rename_i d; exact absurd h d
 · rename_i c; exact absurd h c
theorem out_get {p : Plan} {t : Table} {o : Int} (h : 0 ≤ o ∧ o < 16) : (outB p t 16).getD o.toNat Dat.d0 = fitB p t o := by
 unfold outB
 rw [List.getD_eq_getElem?_getD, List.getElem?_map, List.getElem?_range (by omega)]
 show fitB p t ((o.toNat : Nat) : Int) = _
 rw [show ((o.toNat : Nat) : Int) = o by omega]
theorem tasks_sub {o : Int} {m l : List PlanJob} (h : m.Sublist l) : (tasksV o m).Sublist (tasksV o l) := by
 induction h with
 | slnil => exact List.Sublist.refl _
 | cons a _ ih =>
   rw [tasksV]
   split
   · exact ih.cons _
   · exact ih
 | cons_cons a _ ih =>
   rw [tasksV, tasksV]
   split
   · exact ih.cons_cons _
   · exact ih
theorem fit_sub {l m : List Task} {s : Set} (h : (fitsV l s).2.2 = 0) (hy : (fitsV l s).1 = true) (hs : m.Sublist l) : (fitsV m s).2.2 = 0 ∧ (fitsV m s).1 = true := by
 obtain ⟨-, -, -, fo, -⟩ := fits_rt h
 obtain ⟨-, hy⟩ := fits_yes h hy
 have hlen := fo.len
 exact fits_as h (Nat.le_trans hs.length_le hlen) (demS_sub (Int.le_refl 0) hs fo.ok).1 (fun t ht => ⟨t, hs.subset ht, rfl⟩) fo.rt rfl fun n hn => by have := (demS_sub hn hs fo.ok).2; have := hy n hn; omega
theorem fitB_sub {p q : Plan} {t : Table} {o : Int} (h : fitB p t o = true) (hs : q.jobs.Sublist p.jobs) : fitB q t o = true := by
 have hs := tasks_sub (o := o) hs
 unfold fitB at h ⊢
 rw [Bool.or_eq_true, decide_eq_true_eq, Bool.and_eq_true, decide_eq_true_eq] at h ⊢
 rcases h with h | ⟨h1, h2⟩
 · have := hs.length_le; exact .inl (by omega)
 · exact .inr (fit_sub h1 h2 hs)
structure FwOk (p q : Plan) (o : Int) : Prop where
 e : (judgeV q).2.2 = 0
 len : (judgeV q).2.1.length = 16
 y : (judgeV q).2.1.getD o.toNat Dat.d0 = true
theorem judge_len {p : Plan} (h : (judgeV p).2.2 = 0) : (judgeV p).2.1.length = 16 := by
 obtain ⟨h1, h2⟩ := judge_is h
 rw [judge_go h1 h2]; exact out_len
theorem fewer_wants {p : Plan} {o : Int} (h : (judgeV p).2.2 = 0) (ho : 0 ≤ o ∧ o < 16) (hy : (judgeV p).2.1.getD o.toNat Dat.d0 = true) : FwOk p ⟨p.frame, keepW o p.wants, p.jobs⟩ o := by
 obtain ⟨h1, h2⟩ := judge_is h
 rw [judge_go h1 h2] at hy
 have hy : (outB p (makeV p.frame p.wants).1 16).getD o.toNat Dat.d0 = true := hy
 rw [out_get ho] at hy
 have hm := make_rt h2
 have hk := keep_ok (o := o) hm
 have g := judge_go (p := ⟨p.frame, keepW o p.wants, p.jobs⟩) (keep_pchk h1) (by show (makeV p.frame (keepW o p.wants)).2 = 0; rw [make_go hk])
 refine ⟨by rw [g], by rw [g]; exact out_len, ?_⟩
 rw [g]
 show (outB ⟨p.frame, keepW o p.wants, p.jobs⟩ (makeV p.frame (keepW o p.wants)).1 16).getD o.toNat Dat.d0 = true
 rw [out_get ho, make_go hk]
 rw [make_go hm] at hy
 unfold fitB at hy ⊢
 dsimp only at hy ⊢
 rw [times_keep hm]; exact hy
theorem fewer_jobs {p : Plan} {o : Int} {k : Nat} (h : (judgeV p).2.2 = 0) (ho : 0 ≤ o ∧ o < 16) (hy : (judgeV p).2.1.getD o.toNat Dat.d0 = true) (hk : k < p.jobs.length) : FwOk p ⟨p.frame, p.wants, delU p.jobs k (k + 1)⟩ o := by
 obtain ⟨h1, h2⟩ := judge_is h
 rw [judge_go h1 h2] at hy
 have hy : (outB p (makeV p.frame p.wants).1 16).getD o.toNat Dat.d0 = true := hy
 rw [out_get ho] at hy
 have hsub : (delU p.jobs k (k + 1)).Sublist p.jobs := by
   have : (p.jobs.take k ++ p.jobs.drop (k + 1)).Sublist (p.jobs.take k ++ p.jobs.drop k) := (List.Sublist.refl _).append (by rw [drop_cons Dat.d0 hk]; exact (List.Sublist.refl _).cons _)
   rwa [List.take_append_drop] at this
 obtain ⟨q1, ⟨q2, q3⟩, q4, q5⟩ := pchk_if.1 h1
 have hc : pchkV ⟨p.frame, p.wants, delU p.jobs k (k + 1)⟩ = 0 := pchk_if.2 ⟨q1, ⟨q2, Nat.le_trans hsub.length_le q3⟩, q4, List.all_eq_true.2 fun j hj => List.all_eq_true.1 q5 j (hsub.subset hj)⟩
 have g := judge_go (p := ⟨p.frame, p.wants, delU p.jobs k (k + 1)⟩) hc h2
 refine ⟨by rw [g], by rw [g]; exact out_len, ?_⟩
 rw [g]
 show (outB ⟨p.frame, p.wants, delU p.jobs k (k + 1)⟩ (makeV p.frame p.wants).1 16).getD o.toNat Dat.d0 = true
 rw [out_get ho]
 exact fitB_sub (p := p) hy hsub

end Go.Proofs.YtnjngpjkhddnfaaGreatDoor
