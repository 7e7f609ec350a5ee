/- The program's functions, walked: OfP. -/
import Derived.Test.YtnjngpjkhddnfaaGreatDoorSortF
set_option linter.all false
namespace Go.Proofs.YtnjngpjkhddnfaaGreatDoor
open Go Go.Abs
/- Spans put in order and joined: what comes out hangs on no order. -/
def inB (l : List Span) (t : Int) : Bool := l.any fun x => decide (x.frm ≤ t) && decide (t < x.to)
theorem inB_cons {x : Span} {l : List Span} {t : Int} : inB (x :: l) t = (decide (x.frm ≤ t) && decide (t < x.to) || inB l t) := by simp [inB]
theorem inB_iff {l : List Span} {t : Int} : inB l t = true ↔ ∃ x ∈ l, x.frm ≤ t ∧ t < x.to := by simp [inB]
theorem inB_app {l m : List Span} {t : Int} : inB (l ++ m) t = (inB l t || inB m t) := by simp [inB]
theorem inB_perm {l m : List Span} (h : l.Perm m) (t : Int) : inB l t = inB m t := by
 rw [Bool.eq_iff_iff, inB_iff, inB_iff]
 exact ⟨fun ⟨x, hx, h1⟩ => ⟨x, h.mem_iff.1 hx, h1⟩, fun ⟨x, hx, h1⟩ => ⟨x, h.mem_iff.2 hx, h1⟩⟩
theorem norm_unique {n : Int} : ∀ {l m : List Span} {q q' : Int}, okSp n q l = true → okSp n q' m = true → (∀ t, inB l t = inB m t) → l = m
 | [], [], _, _, _, _, _ => rfl
 | [], y :: m, _, _, _, h2, h => by
   obtain ⟨a1, a2, _, _⟩ := okSp_iff.1 h2
   have := h y.frm
   rw [inB_cons] at this
   simp [inB, a2] at this
 | x :: l, [], _, _, h1, _, h => by
   obtain ⟨a1, a2, _, _⟩ := okSp_iff.1 h1
   have := h x.frm
   rw [inB_cons] at this
   simp [inB, a2] at this
 | x :: l, y :: m, _, _, h1, h2, h => by
   obtain ⟨a1, a2, a3, a4⟩ := okSp_iff.1 h1
   obtain ⟨b1, b2, b3, b4⟩ := okSp_iff.1 h2
   have ml : ∀ t, inB l t = true → x.to < t := by
     intro t ht
     obtain ⟨z, hz, h3, h4⟩ := inB_iff.1 ht
     have := (okSp_bd a4).2.2 z hz
     omega
   have mm : ∀ t, inB m t = true → y.to < t := by
     intro t ht
     obtain ⟨z, hz, h3, h4⟩ := inB_iff.1 ht
     have := (okSp_bd b4).2.2 z hz
     omega
   have key : ∀ t, ((x.frm ≤ t ∧ t < x.to) ∨ inB l t = true) ↔ ((y.frm ≤ t ∧ t < y.to) ∨ inB m t = true) := fun t => by
     have := h t
     rw [inB_cons, inB_cons, Bool.eq_iff_iff] at this
     simpa using this
   have kx : ∀ t, x.frm ≤ t → t < x.to → (y.frm ≤ t ∧ t < y.to) ∨ y.to < t := fun t h1 h2 => ((key t).1 (.inl ⟨h1, h2⟩)).imp id (mm t)
   have ky : ∀ t, y.frm ≤ t → t < y.to → (x.frm ≤ t ∧ t < x.to) ∨ x.to < t := fun t h1 h2 => ((key t).2 (.inl ⟨h1, h2⟩)).imp id (ml t)
   have e1 : x.frm = y.frm := by
     have k1 := kx x.frm (Int.le_refl _) a2
     have k2 := ky y.frm (Int.le_refl _) b2
     omega
   have e2 : x.to = y.to := by
     rcases Int.lt_trichotomy x.to y.to with h3 | h3 | h3
     · have := ky x.to (by omega) h3; omega
     · exact h3
     · have := kx y.to (by omega) h3; omega
   have e3 : x = y := by cases x; cases y; simp_all
   subst e3
   congr 1
   refine norm_unique a4 b4 fun t => ?_
   rw [Bool.eq_iff_iff]
   constructor
   · intro h3
     have := ml t h3
     rcases (key t).1 (.inr h3) with h4 | h4
     · omega
     · exact h4
   · intro h3
     have := mm t h3
     rcases (key t).2 (.inr h3) with h4 | h4
     · omega
     · exact h4

def lastG (out : List Span) : Span := out.getD (out.length - 1) Dat.d0
def addS (out : List Span) (x : Span) : List Span :=
 if x.frm = x.to then out else if 0 < out.length ∧ x.frm ≤ (lastG out).to then out.set (out.length - 1) ⟨(lastG out).frm, if x.to > (lastG out).to then x.to else (lastG out).to⟩ else out ++ [x]
def badS (n : Int) (x : Span) : Prop := x.frm < 0 ∨ x.to < x.frm ∨ n < x.to
instance (n : Int) (x : Span) : Decidable (badS n x) := by unfold badS; infer_instance
def ofR (n : Int) : List Span → List Span → Option (List Span)
 | out, [] => some out
 | out, x :: r => if badS n x then none else ofR n (addS out x) r
theorem okSp_app {n : Int} : ∀ {l : List Span} {q : Int} {z : Span}, okSp n q (l ++ [z]) = true ↔ okSp n q l = true ∧ (∀ y ∈ l, y.to < z.frm) ∧ q < z.frm ∧ z.frm < z.to ∧ z.to ≤ n
 | [], q, z => by simp [okSp, and_assoc]
 | x :: l, q, z => by
   rw [List.cons_append, okSp_iff, okSp_app, okSp_iff]
   constructor
   · rintro ⟨h1, h2, h3, h4, h5, h6, h7, h8⟩
     exact ⟨⟨h1, h2, h3, h4⟩, fun y hy => by rcases List.mem_cons.1 hy with rfl | hy; exact h6; exact h5 y hy, by omega, h7, h8⟩
   · rintro ⟨⟨h1, h2, h3, h4⟩, h5, h6, h7, h8⟩
     exact ⟨h1, h2, h3, h4, fun y hy => h5 y (List.mem_cons_of_mem _ hy), h5 x (List.mem_cons_self ..), h7, h8⟩
theorem addS_ok {n : Int} {out : List Span} {x : Span} (h : okSp n (-1) out = true) (hx : ¬ badS n x) (hf : ∀ y ∈ out, y.frm ≤ x.frm) :
   okSp n (-1) (addS out x) = true ∧ (∀ t, inB (addS out x) t = (inB out t || inB [x] t)) ∧ (∀ y ∈ addS out x, y.frm ≤ x.frm) ∧ (addS out x).length ≤ out.length + 1 := by
 unfold badS at hx
 unfold addS
 split
 · rename_i e
   refine ⟨h, fun t => ?_, hf, Nat.le_succ _⟩
   have : inB [x] t = false := by simp [inB]; intro; omega
   rw [this, Bool.or_false]
 · rename_i e
   have ap : (∀ y ∈ out, y.to < x.frm) → okSp n (-1) (out ++ [x]) = true ∧ (∀ t, inB (out ++ [x]) t = (inB out t || inB [x] t)) ∧ (∀ y ∈ out ++ [x], y.frm ≤ x.frm) ∧ (out ++ [x]).length ≤ out.length + 1 := fun hy =>
     ⟨okSp_app.2 ⟨h, hy, by omega, by omega, by omega⟩, fun t => inB_app, fun y hm => by
       rcases List.mem_append.1 hm with hm | hm
       · exact hf y hm
       · simp at hm; subst hm; omega, by simp⟩
   rcases List.eq_nil_or_concat out with rfl | ⟨init, z, hz0⟩
   · rw [if_neg (by simp)]
     exact ap (by simp)
   · rw [List.concat_eq_append] at hz0
     subst hz0
     have e1 : lastG (init ++ [z]) = z := by simp [lastG, List.getD_eq_getElem?_getD]
     rw [e1]
     obtain ⟨p1, p2, p3, p4, p5⟩ := okSp_app.1 h
     have e2 : (init ++ [z]).length - 1 = init.length := by simp
     split
     · rename_i hc
       have e3 : ∀ v : Span, (init ++ [z]).set ((init ++ [z]).length - 1) v = init ++ [v] := fun v => by rw [e2, List.set_append_right _ _ (Nat.le_refl _)]; simp
       rw [e3]
       have hz := hf z (by simp)
       refine ⟨okSp_app.2 ⟨p1, p2, p3, ?_, ?_⟩, fun t => ?_, fun y hm => ?_, by simp⟩
       · show z.frm < if x.to > z.to then x.to else z.to
         split <;> omega
       · show (if x.to > z.to then x.to else z.to) ≤ n
         split <;> omega
       · rw [inB_app, inB_app, Bool.or_assoc]
         congr 1
         rw [Bool.eq_iff_iff]
         simp only [inB, List.any_cons, List.any_nil, Bool.or_false, Bool.and_eq_true, Bool.or_eq_true, decide_eq_true_eq]
         split <;> omega
       · rcases List.mem_append.1 hm with hm | hm
         · exact hf y (by simp [hm])
         · simp at hm; subst hm; exact hz
     · rename_i hc
       refine ap fun y hy => ?_
       have hzx : z.to < x.frm := by simp at hc; omega
       rcases List.mem_append.1 hy with hy | hy
       · have := p2 y hy; omega
       · simp at hy; subst hy; exact hzx
theorem ofR_ok {n : Int} : ∀ {d out : List Span}, okSp n (-1) out = true → (∀ x ∈ d, ¬ badS n x) → (∀ x ∈ d, ∀ y ∈ out, y.frm ≤ x.frm) → d.Pairwise (fun x y => x.frm ≤ y.frm) →
   ∃ o, ofR n out d = some o ∧ okSp n (-1) o = true ∧ (∀ t, inB o t = (inB out t || inB d t)) ∧ o.length ≤ out.length + d.length
 | [], out, h, _, _, _ => ⟨out, rfl, h, fun t => by simp [inB], Nat.le_refl _⟩
 | x :: d, out, h, hb, hf, hs => by
   obtain ⟨a1, a2, a3, a4⟩ := addS_ok h (hb x (by simp)) (hf x (by simp))
   rw [List.pairwise_cons] at hs
   obtain ⟨o, h1, h2, h3, h4⟩ := ofR_ok (d := d) a1 (fun y hy => hb y (by simp [hy])) (fun y hy z hz => Int.le_trans (a3 z hz) (hs.1 y hy)) hs.2
   refine ⟨o, ?_, h2, fun t => ?_, by simp only [List.length_cons]; omega⟩
   · rw [ofR, if_neg (hb x (by simp))]; exact h1
   · rw [h3, a2, Bool.or_assoc]
     congr 1
     simp [inB]
theorem ofR_bad {n : Int} : ∀ {d out : List Span}, (∃ x ∈ d, badS n x) → ofR n out d = none
 | [], _, h => by simp at h
 | x :: d, out, h => by
   rw [ofR]
   split
   · rfl
   · rename_i hx
     refine ofR_bad ?_
     obtain ⟨y, hy, h1⟩ := h
     rcases List.mem_cons.1 hy with rfl | hy
     · exact absurd h1 hx
     · exact ⟨y, hy, h1⟩
def srtd (d : List Span) : Prop := d.Pairwise fun x y => x.frm ≤ y.frm
theorem srtd_of {l d : List Span} (h : Sorts sortSpan_cf l d) : srtd d := by
 obtain ⟨h1, h2⟩ := h
 unfold srtd
 rw [List.pairwise_iff_getElem]
 intro i j hi hj hij
 have := h2 i j hij (by rw [← h1.length_eq]; exact hj)
 rw [List.getD_eq_getElem?_getD, List.getD_eq_getElem?_getD, List.getElem?_eq_getElem hi, List.getElem?_eq_getElem hj] at this
 have h3 := sortSpan_lt d[j] d[i]
 unfold ltOf at h3
 simp only [Option.getD_some] at this
 have h4 : decide (d[j].frm < d[i].frm) = false := by rw [← h3]; exact decide_eq_false this
 have := of_decide_eq_false h4
 omega
theorem ofR_perm {n : Int} {d d' : List Span} (hp : d.Perm d') (h : srtd d) (h' : srtd d') : ofR n [] d = ofR n [] d' := by
 by_cases hb : ∃ x ∈ d, badS n x
 · rw [ofR_bad hb]
   obtain ⟨x, hx, hx'⟩ := hb
   rw [ofR_bad ⟨x, hp.mem_iff.1 hx, hx'⟩]
 · have hb1 : ∀ x ∈ d, ¬ badS n x := fun x hx hx' => hb ⟨x, hx, hx'⟩
   have hb2 : ∀ x ∈ d', ¬ badS n x := fun x hx => hb1 x (hp.mem_iff.2 hx)
   obtain ⟨o, h1, h2, h3, _⟩ := ofR_ok (out := []) rfl hb1 (by simp) h
   obtain ⟨o', h1', h2', h3', _⟩ := ofR_ok (out := []) rfl hb2 (by simp) h'
   rw [h1, h1']
   congr 1
   exact norm_unique h2 h2' fun t => by rw [h3, h3', inB_perm hp t]
def isr : List Span → List Span
 | [] => []
 | x :: r => ins x (isr r)
where ins (x : Span) : List Span → List Span
 | [] => [x]
 | y :: r => if x.frm ≤ y.frm then x :: y :: r else y :: ins x r
theorem ins_perm {x : Span} : ∀ {l : List Span}, (isr.ins x l).Perm (x :: l)
 | [] => List.Perm.refl _
 | y :: r => by
   rw [isr.ins]
   split
   · exact List.Perm.refl _
   · exact ((ins_perm (l := r)).cons y).trans (List.Perm.swap x y r)
theorem ins_srtd {x : Span} : ∀ {l : List Span}, srtd l → srtd (isr.ins x l)
 | [], _ => by simp [isr.ins, srtd]
 | y :: r, h => by
   unfold srtd at h
   rw [List.pairwise_cons] at h
   rw [isr.ins]
   split
   · rename_i hxy
     unfold srtd
     rw [List.pairwise_cons, List.pairwise_cons]
     exact ⟨fun z hz => by rcases List.mem_cons.1 hz with rfl | hz; exact hxy; exact Int.le_trans hxy (h.1 z hz), h⟩
   · rename_i hxy
     unfold srtd
     rw [List.pairwise_cons]
     refine ⟨fun z hz => ?_, ins_srtd h.2⟩
     rcases List.mem_cons.1 (ins_perm.mem_iff.1 hz) with rfl | hz
     · omega
     · exact h.1 z hz
theorem isr_perm : ∀ {l : List Span}, (isr l).Perm l
 | [] => List.Perm.refl _
 | x :: r => ins_perm.trans ((isr_perm (l := r)).cons x)
theorem isr_srtd : ∀ {l : List Span}, srtd (isr l)
 | [] => List.Pairwise.nil
 | x :: r => ins_srtd isr_srtd
def ofN (n : Int) (l : List Span) : Option (List Span) := ofR n [] (isr l)
theorem ofN_of {n : Int} {l d : List Span} (h : Sorts sortSpan_cf l d) : ofR n [] d = ofN n l := ofR_perm (h.1.trans isr_perm.symm) (srtd_of h) isr_srtd
theorem ofN_ok {n : Int} {l : List Span} (h : ∀ x ∈ l, ¬ badS n x) : ∃ o, ofN n l = some o ∧ okSp n (-1) o = true ∧ (∀ t, inB o t = inB l t) ∧ o.length ≤ l.length := by
 obtain ⟨o, h1, h2, h3, h4⟩ := ofR_ok (n := n) (d := isr l) (out := []) rfl (fun x hx => h x (isr_perm.mem_iff.1 hx)) (by simp) isr_srtd
 refine ⟨o, h1, h2, fun t => by rw [h3, inB_perm isr_perm]; simp [inB], by rw [isr_perm.length_eq] at h4; simpa using h4⟩
theorem ofN_bad {n : Int} {l : List Span} (h : ∃ x ∈ l, badS n x) : ofN n l = none := by
 obtain ⟨x, hx, h1⟩ := h
 exact ofR_bad ⟨x, isr_perm.mem_iff.2 hx, h1⟩
def ofV (n : Int) (l : List Span) : Set × Int :=
 if n < 1 ∨ 1000000 < n then (⟨0, []⟩, 1) else if 200 < l.length then (⟨0, []⟩, 2) else match ofN n l with
   | some o => (⟨n, o⟩, 0)
   | none => (⟨0, []⟩, 4)
theorem ofV_some {n : Int} {l o : List Span} (h1 : ¬ (n < 1 ∨ 1000000 < n)) (h2 : ¬ 200 < l.length) (h : ofN n l = some o) : ofV n l = (⟨n, o⟩, 0) := by rw [ofV, if_neg h1, if_neg h2, h]
theorem ofV_none {n : Int} {l : List Span} (h1 : ¬ (n < 1 ∨ 1000000 < n)) (h2 : ¬ 200 < l.length) (h : ofN n l = none) : ofV n l = (⟨0, []⟩, 4) := by rw [ofV, if_neg h1, if_neg h2, h]
theorem ofV_arg {n : Int} {l : List Span} (h1 : n < 1 ∨ 1000000 < n) : ofV n l = (⟨0, []⟩, 1) := by rw [ofV, if_pos h1]
theorem ofV_large {n : Int} {l : List Span} (h1 : ¬ (n < 1 ∨ 1000000 < n)) (h2 : 200 < l.length) : ofV n l = (⟨0, []⟩, 2) := by rw [ofV, if_neg h1, if_pos h2]

end Go.Proofs.YtnjngpjkhddnfaaGreatDoor
