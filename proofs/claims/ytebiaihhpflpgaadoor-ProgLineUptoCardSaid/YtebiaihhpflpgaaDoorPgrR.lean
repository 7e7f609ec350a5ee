/- Lines joined and read again, plain. -/
import Derived.Test.YtebiaihhpflpgaaDoorPgrQ
set_option linter.all false
namespace Go.Proofs.YtebiaihhpflpgaaDoor
open Go Go.Abs

theorem data_size (s : ByteArray) : s.size = s.data.toList.length := (Array.length_toList).symm
theorem bz_size (l : List UInt8) : (bz l).size = l.length := by rw [data_size, bz_list]
theorem join_data (xs : List ByteArray) : (joinV xs nl1).data.toList = Lib.join (xs.map (·.data.toList)) [10] := bz_list _
theorem app_data (a b : ByteArray) : (a ++ b).data.toList = a.data.toList ++ b.data.toList := by
  rw [ByteArray.data_append, Array.toList_append]
theorem split_nl (s : ByteArray) : splitV s nl1 = (splitC 10 s.data.toList).map bz := splitV_one 10 s
theorem splitV_no {s x : ByteArray} (h : x ∈ splitV s nl1) : (10 : UInt8) ∉ x.data.toList := by
  rw [split_nl] at h
  obtain ⟨l, hl, rfl⟩ := List.mem_map.1 h
  rw [bz_list]; exact splitC_no _ l hl
theorem split_joinV {xs : List ByteArray} (h0 : xs ≠ []) (h : ∀ x ∈ xs, (10 : UInt8) ∉ x.data.toList) : splitV (joinV xs nl1) nl1 = xs := by
  rw [split_nl, join_data, splitC_join (by intro e; exact h0 (List.map_eq_nil_iff.1 e)) (fun y hy => by obtain ⟨x, hx, rfl⟩ := List.mem_map.1 hy; exact h x hx), map_bz]
theorem split_empty : splitV (joinV [] nl1) nl1 = [bz []] := rfl
theorem join_splitV (s : ByteArray) : joinV (splitV s nl1) nl1 = s := by
  have e : (splitV s nl1).map (·.data.toList) = splitC 10 s.data.toList := by
    rw [split_nl, List.map_map]
    have : ((fun x : ByteArray => x.data.toList) ∘ bz) = id := by funext x; exact bz_list x
    rw [this, List.map_id]
  have := join_data (splitV s nl1)
  rw [e, join_splitC] at this
  rw [← bz_data (joinV _ _), this, bz_data]
theorem join_le {c : UInt8} : ∀ (a b : List (List UInt8)), (Lib.join a [c]).length ≤ (Lib.join (a ++ b) [c]).length
  | [], b => by rw [Lib.join_nil]; exact Nat.zero_le _
  | [x], [] => Nat.le_refl _
  | [x], y :: b => by
    rw [List.singleton_append, join_cc, Lib.join_one, List.length_append]; omega
  | x :: y :: a, b => by
    have := join_le (c := c) (y :: a) b
    rw [List.cons_append, List.cons_append, join_cc, join_cc, List.length_append, List.length_append, List.length_cons, List.length_cons]
    rw [List.cons_append] at this
    omega
theorem joinV_le (a b : List ByteArray) : (joinV a nl1).size ≤ (joinV (a ++ b) nl1).size := by
  rw [data_size, data_size, join_data, join_data, List.map_append]
  exact join_le _ _
theorem parse_ten {s : ByteArray} (h : (parseV s).2.2 = 10) : s.size ≤ 10000 ∧ ∃ a x b, splitV s nl1 = a ++ x :: b ∧ (∀ l ∈ a, readL l ≠ .bad) ∧ readL x = .bad ∧ (parseV s).2.1 = (a.length : Int) := by
  unfold parseV at h ⊢
  split at h
  · exact absurd h (by decide)
  · rename_i hs
    rw [if_neg hs]
    refine ⟨by omega, ?_⟩
    rcases lines_two (splitV s nl1) with g | ⟨a, x, b, h1, h2, h3⟩
    · rw [parse_all g] at h
      have := (fin_val ([] ++ (splitV s nl1).flatMap insL)).2.1
      omega
    · refine ⟨a, x, b, h1, h2, h3, ?_⟩
      rw [h1, parse_stop h2 h3]; exact Int.zero_add _
theorem parse_not {s : ByteArray} (h : ∀ l ∈ splitV s nl1, readL l ≠ .bad) : (parseV s).2.2 ≠ 10 := by
  unfold parseV
  split
  · exact (by decide : (2 : Int) ≠ 10)
  · rw [parse_all h]
    have := (fin_val ([] ++ (splitV s nl1).flatMap insL)).2.1
    omega
theorem line_front {s : ByteArray} {a : List ByteArray} {x : ByteArray} {b : List ByteArray} (h1 : splitV s nl1 = a ++ x :: b) (h2 : ∀ l ∈ a, readL l ≠ .bad) : (parseV (joinV a nl1)).2.2 ≠ 10 := by
  refine parse_not fun l hl => ?_
  by_cases h0 : a = []
  · subst h0
    rw [split_empty] at hl
    rw [List.mem_singleton.1 hl, read_none rfl]; exact LineR.noConfusion
  · rw [split_joinV h0 fun y hy => splitV_no (s := s) (by rw [h1]; exact List.mem_append_left _ hy)] at hl
    exact h2 l hl
theorem line_same {s more : ByteArray} {a : List ByteArray} {x : ByteArray} {b : List ByteArray} (h1 : splitV s nl1 = a ++ x :: b) (h2 : ∀ l ∈ a, readL l ≠ .bad) (h3 : readL x = .bad) (hs : s.size + more.size ≤ 9000) :
    parseV (joinV (a ++ [x]) nl1 ++ nl1 ++ more) = ([], (a.length : Int), 10) := by
  have hz : (joinV (a ++ [x]) nl1).size ≤ s.size := by
    have := joinV_le (a ++ [x]) b
    rwa [List.append_assoc, List.singleton_append, ← h1, join_splitV] at this
  have e1 : (joinV (a ++ [x]) nl1 ++ nl1 ++ more).size = (joinV (a ++ [x]) nl1).size + 1 + more.size := by
    rw [ByteArray.size_append, ByteArray.size_append]; rfl
  unfold parseV
  rw [if_neg (by rw [e1]; omega)]
  have e2 : splitV (joinV (a ++ [x]) nl1 ++ nl1 ++ more) nl1 = a ++ x :: splitV more nl1 := by
    rw [split_nl, app_data, app_data, List.append_assoc]
    show (splitC 10 (_ ++ 10 :: more.data.toList)).map bz = _
    rw [splitC_app2, List.map_append, ← split_nl, ← split_nl, split_joinV (by simp) (fun y hy => splitV_no (s := s) (by
      rw [h1]
      rcases List.mem_append.1 hy with q | q
      · exact List.mem_append_left _ q
      · rw [List.mem_singleton.1 q]; exact List.mem_append_right _ (List.mem_cons_self ..))), List.append_assoc]; rfl
  rw [e2, parse_stop h2 h3]
  exact congrArg (fun n => (([] : List Ins), n, (10 : Int))) (Int.zero_add _)
theorem join_front {s : ByteArray} {a : List ByteArray} {x : ByteArray} {b : List ByteArray} (h1 : splitV s nl1 = a ++ x :: b) : (joinV a nl1).size ≤ s.size := by
  have := joinV_le a (x :: b)
  rwa [← h1, join_splitV] at this
theorem join_front2 {s : ByteArray} {a : List ByteArray} {x : ByteArray} {b : List ByteArray} (h1 : splitV s nl1 = a ++ x :: b) : (joinV (a ++ [x]) nl1).size ≤ s.size := by
  have := joinV_le (a ++ [x]) b
  rwa [List.append_assoc, List.singleton_append, ← h1, join_splitV] at this

end Go.Proofs.YtebiaihhpflpgaaDoor
