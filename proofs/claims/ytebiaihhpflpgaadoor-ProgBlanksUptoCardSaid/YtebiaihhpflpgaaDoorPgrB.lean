/- Blanks about words, lines without words, and what stands behind a ; are no matter, plain. -/
import Derived.Test.YtebiaihhpflpgaaDoorPgrR
set_option linter.all false
namespace Go.Proofs.YtebiaihhpflpgaaDoor
open Go Go.Abs

def dblC : List UInt8 → List UInt8
  | [] => []
  | b :: r => if b = 32 then 32 :: 32 :: dblC r else b :: dblC r
theorem dbl_app : ∀ (a b : List UInt8), dblC (a ++ b) = dblC a ++ dblC b
  | [], _ => rfl
  | x :: r, b => by
    rw [List.cons_append, dblC, dblC, dbl_app r b]
    split <;> rfl
theorem dbl_no : ∀ {a : List UInt8}, (32 : UInt8) ∉ a → dblC a = a
  | [], _ => rfl
  | x :: r, h => by
    rw [dblC, if_neg (fun e => h (by simp [e])), dbl_no fun e => h (by simp [e])]
theorem repl_K : ∀ (k : Nat) (l : List UInt8), l.count 32 = k → Lib.replaceK [32] [32, 32] k l = dblC l
  | 0, l, h => by
    rw [dbl_no (List.count_eq_zero.1 h)]; rfl
  | k + 1, l, h => by
    rcases index_one (c := 32) l with ⟨h1, h2⟩ | ⟨a, b, e, h1, h2⟩
    · rw [List.count_eq_zero.2 h1] at h; cases h
    · subst e
      have ha : a.count 32 = 0 := List.count_eq_zero.2 h1
      simp only [List.count_append, List.count_cons_self, ha] at h
      rw [Lib.replaceK_hit _ _ _ _ _ h2, List.take_left, dbl_app, dbl_no h1, dblC, if_pos rfl, ← repl_K k b (by omega)]
      simp
theorem repl_dbl (l : List UInt8) : Lib.replaceAll l [32] [32, 32] = dblC l := by
  unfold Lib.replaceAll Lib.replace
  rw [if_neg (by decide)]
  unfold Lib.replaceNum
  rw [if_pos (.inl (by decide)), Lib.count_one]
  exact repl_K _ l rfl
theorem dbl_split : ∀ (l : List UInt8), splitC 10 (dblC l) = (splitC 10 l).map dblC
  | [] => rfl
  | b :: r => by
    have ih := dbl_split r
    by_cases h : b = 10
    · subst h
      rw [dblC, if_neg (by decide), splitC, if_pos rfl, splitC, if_pos rfl, ih]; rfl
    · cases e : splitC 10 r with
      | nil => exact absurd e (splitC_ne r)
      | cons x t =>
        rw [e] at ih
        have e2 : splitC 10 (b :: r) = (b :: x) :: t := by rw [splitC, if_neg h, e]
        rw [e2]
        by_cases h2 : b = 32
        · subst h2
          rw [dblC, if_pos rfl, splitC, if_neg (by decide), splitC, if_neg (by decide), ih]
          show (32 :: 32 :: dblC x) :: t.map dblC = dblC (32 :: x) :: t.map dblC
          rw [dblC, if_pos rfl]
        · rw [dblC, if_neg h2, splitC, if_neg h, ih]
          show (b :: dblC x) :: t.map dblC = dblC (b :: x) :: t.map dblC
          rw [dblC, if_neg h2]
theorem dbl_cut : ∀ (l : List UInt8), cutC 59 (dblC l) = dblC (cutC 59 l)
  | [] => rfl
  | b :: r => by
    have ih := dbl_cut r
    unfold cutC at ih ⊢
    by_cases h : b = 59
    · subst h
      rw [dblC, if_neg (by decide), List.takeWhile_cons_of_neg (by simp), List.takeWhile_cons_of_neg (by simp)]; rfl
    · by_cases h2 : b = 32
      · subst h2
        rw [dblC, if_pos rfl, List.takeWhile_cons_of_pos (by decide), List.takeWhile_cons_of_pos (by decide), ih, List.takeWhile_cons_of_pos (by decide), dblC, if_pos rfl]
      · rw [dblC, if_neg h2, List.takeWhile_cons_of_pos (by simpa using h), ih, List.takeWhile_cons_of_pos (by simpa using h), dblC, if_neg h2]
def wrdC (l : List UInt8) : List (List UInt8) := (splitC 32 l).filter (fun x => decide (x ≠ []))
theorem wrd_blank (l : List UInt8) : wrdC (32 :: l) = wrdC l := by
  unfold wrdC
  rw [splitC, if_pos rfl, List.filter_cons_of_neg (by simp)]
theorem wrd_end (l : List UInt8) : wrdC (l ++ [32]) = wrdC l := by
  unfold wrdC
  rw [show l ++ [32] = l ++ (32 : UInt8) :: [] from rfl, splitC_app2, List.filter_append, show splitC 32 [] = [[]] from rfl, List.filter_cons_of_neg (by simp), List.filter_nil, List.append_nil]
theorem dbl_head : ∀ (l : List UInt8), ∃ x t u, splitC 32 l = x :: t ∧ splitC 32 (dblC l) = x :: u ∧ t.filter (fun x => decide (x ≠ [])) = u.filter (fun x => decide (x ≠ []))
  | [] => ⟨[], [], [], rfl, rfl, rfl⟩
  | b :: r => by
    obtain ⟨x, t, u, h1, h2, h3⟩ := dbl_head r
    by_cases h : b = 32
    · subst h
      refine ⟨[], x :: t, [] :: x :: u, ?_, ?_, ?_⟩
      · rw [splitC, if_pos rfl, h1]
      · rw [dblC, if_pos rfl, splitC, if_pos rfl, splitC, if_pos rfl, h2]
      · rw [List.filter_cons_of_neg (a := []) (by simp), List.filter_cons, List.filter_cons, h3]
    · refine ⟨b :: x, t, u, ?_, ?_, h3⟩
      · rw [splitC, if_neg h, h1]
      · rw [dblC, if_neg h, splitC, if_neg h, h2]
theorem wrd_dbl (l : List UInt8) : wrdC (dblC l) = wrdC l := by
  obtain ⟨x, t, u, h1, h2, h3⟩ := dbl_head l
  unfold wrdC
  rw [h1, h2, List.filter_cons, List.filter_cons, h3]
theorem wds_dbl (l : List UInt8) : wdsC (dblC l) = wdsC l := by
  show wrdC (cutC 59 (dblC l)) = wrdC (cutC 59 l)
  rw [dbl_cut, wrd_dbl]
theorem wds_blank (l : List UInt8) : wdsC (32 :: l) = wdsC l := by
  show wrdC (cutC 59 (32 :: l)) = wrdC (cutC 59 l)
  unfold cutC
  rw [List.takeWhile_cons_of_pos (by decide)]
  exact wrd_blank _
theorem cut_app : ∀ (x r : List UInt8), cutC 59 (x ++ 32 :: 59 :: r) = cutC 59 x ∨ cutC 59 (x ++ 32 :: 59 :: r) = cutC 59 x ++ [32]
  | [], r => .inr rfl
  | b :: x, r => by
    by_cases h : b = 59
    · subst h
      refine .inl ?_
      unfold cutC
      rw [List.cons_append, List.takeWhile_cons_of_neg (by simp), List.takeWhile_cons_of_neg (by simp)]
    · have e : ∀ y, cutC 59 (b :: y) = b :: cutC 59 y := fun y => by
        unfold cutC
        rw [List.takeWhile_cons_of_pos (by simpa using h)]
      rw [List.cons_append, e, e]
      rcases cut_app x r with q | q
      · exact .inl (by rw [q])
      · exact .inr (by rw [q]; rfl)
theorem wds_note (x r : List UInt8) : wdsC (x ++ 32 :: 59 :: r) = wdsC x := by
  show wrdC (cutC 59 _) = wrdC (cutC 59 x)
  rcases cut_app x r with q | q
  · rw [q]
  · rw [q, wrd_end]
def wideC (pre note : List UInt8) : List (List UInt8) → List (List UInt8)
  | [] => []
  | [x] => [pre ++ x]
  | x :: y :: r => (pre ++ x ++ 32 :: 59 :: note) :: wideC [32, 32] note (y :: r)
theorem join_sep {x y : List UInt8} {r : List (List UInt8)} {s : List UInt8} : Lib.join (x :: y :: r) s = x ++ s ++ Lib.join (y :: r) s := by
  rw [Lib.join_cons, Lib.join_cons]
  simp [Lib.joinTail]
theorem wide_split {note : List UInt8} (hn : (10 : UInt8) ∉ note) : ∀ {L : List (List UInt8)} {pre : List UInt8}, L ≠ [] → (10 : UInt8) ∉ pre → (∀ x ∈ L, (10 : UInt8) ∉ x) → splitC 10 (pre ++ Lib.join L (32 :: 59 :: note ++ [10, 32, 32])) = wideC pre note L
  | [], _, h, _, _ => absurd rfl h
  | [x], pre, _, hp, h => by
    rw [Lib.join_one, wideC]
    exact splitC_pre (fun q => (List.mem_append.1 q).elim hp (h x (List.mem_cons_self ..)))
  | x :: y :: r, pre, _, hp, h => by
    have e : pre ++ Lib.join (x :: y :: r) (32 :: 59 :: note ++ [10, 32, 32]) = (pre ++ x ++ 32 :: 59 :: note) ++ 10 :: ([32, 32] ++ Lib.join (y :: r) (32 :: 59 :: note ++ [10, 32, 32])) := by
      rw [join_sep]; simp
    have hx : (10 : UInt8) ∉ pre ++ x ++ 32 :: 59 :: note := fun q => by
      rcases List.mem_append.1 q with q | q
      · exact (List.mem_append.1 q).elim hp (h x (List.mem_cons_self ..))
      · rcases List.mem_cons.1 q with q | q
        · exact absurd q (by decide)
        · rcases List.mem_cons.1 q with q | q
          · exact absurd q (by decide)
          · exact hn q
    rw [e, splitC_app hx, wide_split hn (by simp) (by decide) (fun z hz => h z (List.mem_cons_of_mem _ hz)), wideC]
def sameR (a b : List UInt8) : Prop := wdsC a = wdsC b
inductive SameL : List (List UInt8) → List (List UInt8) → Prop where
  | nil : SameL [] []
  | cons {a b : List UInt8} {A B : List (List UInt8)} (h : sameR a b) (t : SameL A B) : SameL (a :: A) (b :: B)
theorem wide_same {note : List UInt8} : ∀ {L : List (List UInt8)} {pre : List UInt8}, (pre = [] ∨ pre = [32, 32]) → SameL ((wideC pre note L).map dblC) L
  | [], _, _ => .nil
  | [x], pre, h => by
    refine .cons ?_ .nil
    show wdsC (dblC (pre ++ x)) = wdsC x
    rw [wds_dbl]
    rcases h with h | h <;> subst h
    · rfl
    · exact (wds_blank _).trans (wds_blank _)
  | x :: y :: r, pre, h => by
    refine .cons ?_ (wide_same (.inr rfl))
    show wdsC (dblC (pre ++ x ++ 32 :: 59 :: note)) = wdsC x
    rw [wds_dbl, wds_note]
    rcases h with h | h <;> subst h
    · rfl
    · exact (wds_blank _).trans (wds_blank _)
theorem same_read {a b : List UInt8} (h : sameR a b) : readL (bz a) = readL (bz b) := by
  refine read_congr ?_
  rw [wordsL_bz, wordsL_bz, bz_list, bz_list, h]
theorem same_parse : ∀ {A B : List (List UInt8)}, SameL A B → ∀ n out, parseL (A.map bz) n out = parseL (B.map bz) n out
  | _, _, .nil, _, _ => rfl
  | _, _, .cons h t, n, out => by
    rw [List.map_cons, List.map_cons, parseL, parseL, same_read h]
    split
    · exact same_parse t _ _
    · rfl
    · exact same_parse t _ _
def insB {α : Type} (l : List α) (k : Nat) (m : List α) : List α := l.take k ++ m ++ l.drop k
theorem wide_parse {p : List Ins} (h : checkP p = 0) (k : Nat) (note : List UInt8) (hn : (10 : UInt8) ∉ note) :
    parseL (splitV (bz (dblC (Lib.join (insB (p.map insT ++ [[]]) k [[32, 32], 59 :: note]) (32 :: 59 :: note ++ [10, 32, 32])))) nl1) 0 [] = (p, 0, 0) := by
  obtain ⟨h1, h2⟩ := check_iff.1 h
  have h1' : (p.length : Int) ≤ 100 := by omega
  have hno : ∀ x ∈ p.map insT ++ [[]], (10 : UInt8) ∉ x := fun x hx => by
    rcases List.mem_append.1 hx with hx | hx
    · obtain ⟨i, hi, rfl⟩ := List.mem_map.1 hx
      exact fun q => (insT_no h1' (h2 i hi) q).2 rfl
    · rw [List.mem_singleton.1 hx]; exact fun q => by cases q
  have hL : ∀ x ∈ insB (p.map insT ++ [[]]) k [[32, 32], 59 :: note], (10 : UInt8) ∉ x := fun x hx => by
    rcases List.mem_append.1 hx with hx | hx
    · rcases List.mem_append.1 hx with hx | hx
      · exact hno x (List.mem_of_mem_take hx)
      · rcases List.mem_cons.1 hx with hx | hx
        · rw [hx]; decide
        · rw [List.mem_singleton.1 hx]
          intro q
          rcases List.mem_cons.1 q with q | q
          · exact absurd q (by decide)
          · exact hn q
    · exact hno x (List.mem_of_mem_drop hx)
  have hne : insB (p.map insT ++ [[]]) k [[32, 32], 59 :: note] ≠ [] := fun q => by
    have := congrArg List.length q
    unfold insB at this
    simp at this
  rw [split_nl, bz_list, dbl_split]
  have e := wide_split hn (pre := []) hne (fun q => by cases q) hL
  rw [List.nil_append] at e
  rw [e, same_parse (wide_same (.inl rfl))]
  obtain ⟨g1, g2⟩ := flat_ins h1' h2
  have r0 : readL (bz []) = .no := read_none rfl
  have r1 : readL (bz [32, 32]) = .no := read_none rfl
  have r2 : readL (bz (59 :: note)) = .no := read_none (by
    show wrdC (cutC 59 (59 :: note)) = []
    unfold cutC
    rw [List.takeWhile_cons_of_neg (by simp)]; rfl)
  have i0 : insL (bz []) = [] := by unfold insL; rw [r0]
  have i1 : insL (bz [32, 32]) = [] := by unfold insL; rw [r1]
  have i2 : insL (bz (59 :: note)) = [] := by unfold insL; rw [r2]
  have all0 : ∀ l ∈ (p.map insT ++ [[]]).map bz, readL l ≠ .bad := fun l hl => by
    rw [List.map_append] at hl
    rcases List.mem_append.1 hl with q | q
    · exact g1 l q
    · rw [List.mem_singleton.1 q, r0]; exact LineR.noConfusion
  have fl0 : ((p.map insT ++ [[]]).map bz).flatMap insL = p := by
    rw [List.map_append, List.flatMap_append, g2]
    show p ++ (insL (bz []) ++ []) = p
    rw [i0]; simp
  rw [parse_all]
  · rw [List.nil_append]
    have : ((insB (p.map insT ++ [[]]) k [[32, 32], 59 :: note]).map bz).flatMap insL = p := by
      unfold insB
      rw [List.map_append, List.map_append, List.flatMap_append, List.flatMap_append]
      have m : (([[32, 32], 59 :: note] : List (List UInt8)).map bz).flatMap insL = [] := by
        show insL (bz [32, 32]) ++ (insL (bz (59 :: note)) ++ []) = []
        rw [i1, i2]; rfl
      rw [m, List.append_nil, ← List.flatMap_append, ← List.map_append, List.take_append_drop, fl0]
    rw [this]
    unfold finV
    rw [if_pos h]
  · intro l hl
    obtain ⟨x, hx, rfl⟩ := List.mem_map.1 hl
    rcases List.mem_append.1 hx with hx | hx
    · rcases List.mem_append.1 hx with hx | hx
      · exact all0 _ (List.mem_map_of_mem (List.mem_of_mem_take hx))
      · rcases List.mem_cons.1 hx with hx | hx
        · rw [hx, r1]; exact LineR.noConfusion
        · rw [List.mem_singleton.1 hx, r2]; exact LineR.noConfusion
    · exact all0 _ (List.mem_map_of_mem (List.mem_of_mem_drop hx))

end Go.Proofs.YtebiaihhpflpgaaDoor
