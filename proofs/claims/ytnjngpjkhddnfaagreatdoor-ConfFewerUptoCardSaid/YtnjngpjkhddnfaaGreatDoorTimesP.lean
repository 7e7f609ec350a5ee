/- An owner's times, as a set. -/
import Derived.Test.YtnjngpjkhddnfaaGreatDoorOfP
import Derived.Test.YtnjngpjkhddnfaaGreatDoorHasP
import Derived.Test.YtnjngpjkhddnfaaGreatDoorOfQ
import Derived.Test.YtnjngpjkhddnfaaGreatDoorTable
import Derived.Test.YtnjngpjkhddnfaaGreatDoorMake
set_option linter.all false
namespace Go.Proofs.YtnjngpjkhddnfaaGreatDoor
open Go Go.Abs

def tmL (n : Int) : List Window → List Span
 | [] => []
 | w :: r => if w.owner = n then ⟨w.frm, w.frm + w.long⟩ :: tmL n r else tmL n r
theorem tmL_drop {n : Int} {l : List Window} {k : Nat} (hk : k < l.length) : tmL n (l.drop k) = if (l.getD k Dat.d0).owner = n then ⟨(l.getD k Dat.d0).frm, (l.getD k Dat.d0).frm + (l.getD k Dat.d0).long⟩ :: tmL n (l.drop (k + 1)) else tmL n (l.drop (k + 1)) := by
 rw [drop_cons Dat.d0 hk, tmL]
theorem tmL_mem {n : Int} {x : Span} : ∀ {l : List Window}, x ∈ tmL n l → ∃ w ∈ l, x = ⟨w.frm, w.frm + w.long⟩ ∧ w.owner = n
 | [], h => by simp [tmL] at h
 | w :: r, h => by
   rw [tmL] at h
   by_cases hn : w.owner = n
   · rw [if_pos hn] at h
     rcases List.mem_cons.1 h with rfl | h
     · exact ⟨w, by simp, rfl, hn⟩
     · obtain ⟨z, hz, h2⟩ := tmL_mem h
       exact ⟨z, by simp [hz], h2⟩
   · rw [if_neg hn] at h
     obtain ⟨z, hz, h2⟩ := tmL_mem h
     exact ⟨z, by simp [hz], h2⟩
theorem tmL_len {n : Int} : ∀ {l : List Window}, (tmL n l).length ≤ l.length
 | [] => Nat.le_refl _
 | w :: r => by
   have := tmL_len (n := n) (l := r)
   rw [tmL]
   split <;> simp only [List.length_cons] <;> omega
theorem tmL_in {n f y : Int} (hn : 0 ≤ n) : ∀ {l : List Window} {e : Int}, okW f e l = true → inB (tmL n l) y = decide ((atW f y l).1 = n)
 | [], _, _ => by
   rw [tmL, atW, decide_eq_false (by show ¬ (-1 : Int) = n; omega)]; rfl
 | w :: r, e, h => by
   rw [okW, Bool.and_eq_true] at h
   have hw := winB_iff.1 h.1
   have ih := tmL_in (n := n) (y := y) hn h.2
   have hr : y < w.frm + w.long → inB (tmL n r) y = false := fun hy => by
     apply Bool.eq_false_iff.2
     intro q
     obtain ⟨x, hx, q1, q2⟩ := inB_iff.1 q
     obtain ⟨z, hz, rfl, _⟩ := tmL_mem hx
     have := okW_ge h.2 z hz
     have q1 : z.frm ≤ y := q1
     omega
   rw [tmL, atW]
   by_cases h1 : y < w.frm
   · rw [if_pos h1, decide_eq_false (by show ¬ (-1 : Int) = n; omega)]
     split
     · rw [inB_cons, hr (by omega), Bool.or_false, decide_eq_false (by show ¬ w.frm ≤ y; omega)]; rfl
     · exact hr (by omega)
   · rw [if_neg h1]
     by_cases h2 : y < w.frm + w.long
     · rw [if_pos h2]
       split
       · rename_i hq
         rw [inB_cons, decide_eq_true (by show w.frm ≤ y; omega), decide_eq_true h2, decide_eq_true hq]; rfl
       · rename_i hq
         rw [hr h2, decide_eq_false hq]
     · rw [if_neg h2]
       split
       · rw [inB_cons, ih, decide_eq_false (show ¬ y < w.frm + w.long from h2), Bool.and_false, Bool.false_or]
       · exact ih
theorem tmL_bad {n f : Int} {l : List Window} (h : okW f 0 l = true) : ∀ x ∈ tmL n l, ¬ badS f x := by
 intro x hx
 obtain ⟨w, hw, rfl, _⟩ := tmL_mem hx
 have := winB_iff.1 (okW_all (Int.le_refl 0) h w hw)
 unfold badS
 show ¬ (w.frm < 0 ∨ w.frm + w.long < w.frm ∨ f < w.frm + w.long)
 omega
def timesV (t : Table) (n : Int) : Set × Int := if wchkV t = 0 then (if ownB n = true then ofV t.frame (tmL n t.windows) else (⟨0, []⟩, 1)) else (⟨0, []⟩, wchkV t)
structure TmOk (t : Table) (n : Int) : Prop where
 e : (timesV t n).2 = 0
 rt : Right (timesV t n).1
 sz : (timesV t n).1.size = t.frame
 inn : ∀ y, inB (timesV t n).1.spans y = decide ((atW t.frame y t.windows).1 = n)
 of : ofV t.frame (tmL n t.windows) = timesV t n
theorem times_rt {t : Table} (h : RightT t) {n : Int} (hn : ownB n = true) : TmOk t n := by
 have hb : 0 ≤ n := by unfold ownB at hn; have := of_decide_eq_true hn; omega
 have e : timesV t n = ofV t.frame (tmL n t.windows) := by rw [timesV, if_pos (wchk_iff.2 h), if_pos hn]
 obtain ⟨o, o1, o2, o3, o4⟩ := ofN_ok (tmL_bad (n := n) h.ok)
 have s1 := h.s1
 have s2 := h.s2
 have hl := tmL_len (n := n) (l := t.windows)
 have hl2 := h.len
 have ev := ofV_some (show ¬ (t.frame < 1 ∨ 1000000 < t.frame) by omega) (by omega) o1
 have e0 : (ofV t.frame (tmL n t.windows)).2 = 0 := by rw [ev]
 obtain ⟨q1, q2, q3, q4⟩ := of_right e0
 exact ⟨by rw [e]; exact e0, by rw [e]; exact q1, by rw [e]; exact q2, fun y => by rw [e, q4, tmL_in hb h.ok], e.symm⟩
theorem times_is {t : Table} {n : Int} (h : (timesV t n).2 = 0) : RightT t ∧ ownB n = true := by
 unfold timesV at h
 by_cases h1 : wchkV t = 0
 · rw [if_pos h1] at h
   by_cases h2 : ownB n = true
   · exact ⟨wchk_iff.1 h1, h2⟩
   · rw [if_neg h2] at h; exact absurd h (by decide)
 · rw [if_neg h1] at h; exact absurd h h1

end Go.Proofs.YtnjngpjkhddnfaaGreatDoor
