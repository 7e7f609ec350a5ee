/- Lines of a plan's text that can't stand there, plain. -/
import Derived.Test.YtnjngpjkhddnfaaGreatDoorConfP
set_option linter.all false
namespace Go.Proofs.YtnjngpjkhddnfaaGreatDoor
open Go Go.Abs

theorem data_size (s : ByteArray) : s.size = s.data.toList.length := (Array.length_toList).symm
theorem join_data (xs : List ByteArray) : (joinV xs nl1).data.toList = Lib.join (xs.map (·.data.toList)) [10] := bzl_list _
theorem app_data (a b : ByteArray) : (a ++ b).data.toList = a.data.toList ++ b.data.toList := by
  rw [ByteArray.data_append, Array.toList_append]
theorem split_nl (s : ByteArray) : splitV s nl1 = (splitC 10 s.data.toList).map bzl := splitV_one 10 s
theorem splitV_no {s x : ByteArray} (h : x ∈ splitV s nl1) : (10 : UInt8) ∉ x.data.toList := by
  rw [split_nl] at h
  obtain ⟨l, hl, rfl⟩ := List.mem_map.1 h
  rw [bzl_list]; exact splitC_no _ l hl
theorem map_bzl (l : List ByteArray) : (l.map (·.data.toList)).map bzl = l := by
  rw [List.map_map]
  have : (bzl ∘ fun x : ByteArray => x.data.toList) = id := by funext x; exact bzl_data x
  rw [this, List.map_id]
theorem split_joinV {xs : List ByteArray} (h0 : xs ≠ []) (h : ∀ x ∈ xs, (10 : UInt8) ∉ x.data.toList) : splitV (joinV xs nl1) nl1 = xs := by
  rw [split_nl, join_data, splitC_join (by intro e; exact h0 (List.map_eq_nil_iff.1 e)) (fun y hy => by obtain ⟨x, hx, rfl⟩ := List.mem_map.1 hy; exact h x hx), map_bzl]
theorem join_splitV (s : ByteArray) : joinV (splitV s nl1) nl1 = s := by
  have e : (splitV s nl1).map (·.data.toList) = splitC 10 s.data.toList := by
    rw [split_nl, List.map_map]
    have : ((fun x : ByteArray => x.data.toList) ∘ bzl) = id := by funext x; exact bzl_list x
    rw [this, List.map_id]
  have := join_data (splitV s nl1)
  rw [e, join_splitC] at this
  rw [← bzl_data (joinV _ _), this, bzl_data]
theorem join_le {c : UInt8} : ∀ (a b : List (List UInt8)), (Lib.join a [c]).length ≤ (Lib.join (a ++ b) [c]).length
  | [], b => by rw [Lib.join_nil]; exact Nat.zero_le _
  | [x], [] => Nat.le_refl _
  | [x], y :: b => by
    rw [List.singleton_append, join_cc, Lib.join_one, List.length_append]; omega
  | x :: y :: a, b => by
    have := join_le (c := c) (y :: a) b
    rw [List.cons_append, List.cons_append, join_cc, join_cc, List.length_append, List.length_append, List.length_cons, List.length_cons]
    rw [List.cons_append] at this
    omega
theorem joinV_le (a b : List ByteArray) : (joinV a nl1).size ≤ (joinV (a ++ b) nl1).size := by
  rw [data_size, data_size, join_data, join_data, List.map_append]
  exact join_le _ _
theorem take_size (s : ByteArray) (n : Nat) : (joinV ((splitV s nl1).take n) nl1).size ≤ s.size := by
  have := joinV_le ((splitV s nl1).take n) ((splitV s nl1).drop n)
  rwa [List.take_append_drop, join_splitV] at this
def endS (r : RdS) (n : Int) : Plan × Int × Int := if r.st = 0 then (plan0, n, 10) else if pchkV r.plan = 0 then (r.plan, 0, 0) else (plan0, 0, pchkV r.plan)
def goS : List ByteArray → RdS → Option RdS
  | [], r => some r
  | l :: t, r => if remB (wordsP l) then goS t r else match lineS r (wordsP l) with
    | none => none
    | some r2 => goS t r2
def badR (r : RdS) (x : ByteArray) : Prop := ¬ remB (wordsP x) ∧ lineS r (wordsP x) = none
theorem read_go : ∀ {a b : List ByteArray} {n : Int} {r r1 : RdS}, goS a r = some r1 → readS (a ++ b) n r = readS b (n + (a.length : Int)) r1
  | [], b, n, r, r1, h => by cases h; simp
  | l :: t, b, n, r, r1, h => by
    rw [goS] at h
    rw [List.cons_append, readS, List.length_cons]
    by_cases q : remB (wordsP l)
    · rw [if_pos q] at h ⊢
      rw [read_go h]; congr 1; omega
    · rw [if_neg q] at h ⊢
      cases e : lineS r (wordsP l) with
      | none => rw [e] at h; cases h
      | some r2 =>
        rw [e] at h
        show readS (t ++ b) (n + 1) r2 = _
        rw [read_go h]; congr 1; omega
theorem read_stop {a b : List ByteArray} {x : ByteArray} {n : Int} {r r1 : RdS} (h : goS a r = some r1) (hx : badR r1 x) : readS (a ++ x :: b) n r = (plan0, n + (a.length : Int), 10) := by
  rw [read_go h, readS, if_neg hx.1, hx.2]
theorem read_two : ∀ (L : List ByteArray) (r : RdS), (∃ r1, goS L r = some r1) ∨ ∃ a x b r1, L = a ++ x :: b ∧ goS a r = some r1 ∧ badR r1 x
  | [], r => .inl ⟨r, rfl⟩
  | l :: t, r => by
    by_cases q : remB (wordsP l)
    · rcases read_two t r with ⟨r1, h⟩ | ⟨a, x, b, r1, h1, h2, h3⟩
      · exact .inl ⟨r1, by rw [goS, if_pos q, h]⟩
      · exact .inr ⟨l :: a, x, b, r1, by rw [h1]; rfl, by rw [goS, if_pos q, h2], h3⟩
    · cases e : lineS r (wordsP l) with
      | none => exact .inr ⟨[], l, t, r, rfl, rfl, q, e⟩
      | some r2 =>
        rcases read_two t r2 with ⟨r1, h⟩ | ⟨a, x, b, r1, h1, h2, h3⟩
        · exact .inl ⟨r1, by rw [goS, if_neg q, e]; exact h⟩
        · exact .inr ⟨l :: a, x, b, r1, by rw [h1]; rfl, by rw [goS, if_neg q, e]; exact h2, h3⟩
theorem pchk_val (p : Plan) : pchkV p = 0 ∨ pchkV p = 1 ∨ pchkV p = 2 ∨ pchkV p = 4 := by
  unfold pchkV
  repeat' split
  all_goals first | exact .inl rfl | exact .inr (.inl rfl) | exact .inr (.inr (.inl rfl)) | exact .inr (.inr (.inr rfl))
theorem end_val (r : RdS) (n : Int) : ((endS r n).2.2 = 10 → (endS r n).2.1 = n) ∧ ((endS r n).2.2 ≠ 10 → (endS r n).2.1 = 0) ∧ ((endS r n).2.2 = 0 → pchkV (endS r n).1 = 0) := by
  unfold endS
  split
  · exact ⟨fun _ => rfl, fun q => absurd rfl q, fun q => absurd (show (10 : Int) = 0 from q) (by decide)⟩
  · split
    · rename_i h; exact ⟨fun q => absurd (show (0 : Int) = 10 from q) (by decide), fun _ => rfl, fun _ => h⟩
    · rename_i h
      refine ⟨fun q => ?_, fun _ => rfl, fun q => absurd q h⟩
      have q : pchkV r.plan = 10 := q
      have := pchk_val r.plan; omega
abbrev r00 : RdS := ⟨0, [], [], 0⟩
theorem rd_cases (s : ByteArray) : (65536 < s.size ∧ readV s = (plan0, 0, 2)) ∨ (∃ r1, goS (linesR s) r00 = some r1 ∧ readV s = endS r1 ((linesR s).length : Int)) ∨ ∃ a x b r1, linesR s = a ++ x :: b ∧ goS a r00 = some r1 ∧ badR r1 x ∧ readV s = (plan0, (a.length : Int), 10) := by
  unfold readV
  split
  · rename_i h; exact .inl ⟨h, rfl⟩
  · rcases read_two (linesR s) r00 with ⟨r1, h⟩ | ⟨a, x, b, r1, h1, h2, h3⟩
    · refine .inr (.inl ⟨r1, h, ?_⟩)
      have := read_go (b := []) (n := 0) h
      rw [List.append_nil] at this
      rw [this, Int.zero_add]; rfl
    · refine .inr (.inr ⟨a, x, b, r1, h1, h2, h3, ?_⟩)
      rw [h1, read_stop h2 h3, Int.zero_add]
theorem rd_not {s : ByteArray} (h : ¬ (readV s).2.2 = 10) : (readV s).2.1 = 0 := by
  rcases rd_cases s with ⟨-, e⟩ | ⟨r1, -, e⟩ | ⟨a, x, b, r1, -, -, -, e⟩
  · rw [e]
  · rw [e] at h ⊢
    exact (end_val _ _).2.1 h
  · rw [e] at h; exact absurd rfl h
theorem lines_or (s : ByteArray) : splitV s nl1 = linesR s ∨ splitV s nl1 = linesR s ++ [.empty] := by
  have hp : 0 < (splitV s nl1).length := splitV_pos
  unfold linesR
  split
  · rename_i h
    refine .inr ?_
    have e : (splitV s nl1).drop ((splitV s nl1).length - 1) = [.empty] := by
      rw [drop_consB (by omega), h, List.drop_eq_nil_of_le (by omega)]
    rw [← e, List.take_append_drop]
  · exact .inl rfl
def nlB (l : ByteArray) : ByteArray := l ++ bzl [10]
theorem ahead_lines {S : List ByteArray} (h : ∀ x ∈ S, (10 : UInt8) ∉ x.data.toList) : linesR (flatB nlB S) = S := by
  refine lines_drop ?_
  rw [split_nl, flat_data nlB (fun x => x.data.toList) (fun x => app_data _ _)]
  have e : (S.flatMap fun x => x.data.toList ++ [10]) = (S.map (·.data.toList)).flatMap fun x => x ++ [10] := by rw [List.flatMap_map]
  rw [e, split_lines fun x hx => by obtain ⟨y, hy, rfl⟩ := List.mem_map.1 hx; exact h y hy, List.map_append, map_bzl]; rfl
theorem ahead_val {A : ByteArray} {L : List ByteArray} {r1 : RdS} (hL : linesR A = L) (h : goS L r00 = some r1) : (readV A).2.2 = 10 → (readV A).2.1 = (L.length : Int) := by
  rcases rd_cases A with ⟨-, e⟩ | ⟨r2, g, e⟩ | ⟨a, x, b, r2, g1, g2, g3, e⟩
  · rw [e]; intro q; cases q
  · rw [e, hL]; exact (end_val _ _).1
  · rw [hL] at g1
    rw [g1] at h
    exfalso
    have : ∀ {a : List ByteArray} {r : RdS}, goS a r = some r2 → goS (a ++ x :: b) r = none := fun {a} => by
      induction a with
      | nil =>
        intro r q
        cases q
        show goS (x :: b) _ = none
        rw [goS, if_neg g3.1, g3.2]
      | cons l t ih =>
        intro r q
        rw [goS] at q
        rw [List.cons_append, goS]
        by_cases c : remB (wordsP l)
        · rw [if_pos c] at q ⊢; exact ih q
        · rw [if_neg c] at q ⊢
          cases d : lineS r (wordsP l) with
          | none => rw [d] at q; first | done | cases q
          | some r3 => rw [d] at q; exact ih q
    rw [this g2] at h; cases h
theorem lines_front {T : ByteArray} {S M : List ByteArray} (h : splitV T nl1 = S ++ M) (hM : M ≠ []) : ∃ c, linesR T = S ++ c := by
  rcases lines_or T with e | e
  · exact ⟨M, by rw [← e, h]⟩
  · refine ⟨M.dropLast, ?_⟩
    have : (linesR T ++ [ByteArray.empty]).dropLast = linesR T := List.dropLast_concat
    rw [← this, ← e, h, List.dropLast_append_of_ne_nil hM]
structure LnOk (s more : ByteArray) (n : Nat) : Prop where
  e : (readV s).2.1 = (n : Int)
  le : n ≤ (splitV s nl1).length
  ahead : n < (splitV s nl1).length → (readV (flatB nlB ((splitV s nl1).take n))).2.2 = 10 → ¬ (readV (flatB nlB ((splitV s nl1).take n))).2.1 < (n : Int)
  rest : n < (splitV s nl1).length → s.size + more.size ≤ 60000 → ((readV (joinV ((splitV s nl1).take (n + 1)) nl1 ++ nl1 ++ more)).2.2 = 10 ∧ (readV (joinV ((splitV s nl1).take (n + 1)) nl1 ++ nl1 ++ more)).2.1 = (n : Int)) ∨ (n = (splitV s nl1).length - 1 ∧ (splitV s nl1).getD n Dat.d0 = .empty)
theorem line_ok {s : ByteArray} (more : ByteArray) (h : (readV s).2.2 = 10) : ∃ n, LnOk s more n := by
  have hno : ∀ x ∈ splitV s nl1, (10 : UInt8) ∉ x.data.toList := fun x hx => splitV_no hx
  have hnt : ∀ n, ∀ x ∈ (splitV s nl1).take n, (10 : UInt8) ∉ x.data.toList := fun n x hx => hno x (List.mem_of_mem_take hx)
  rcases rd_cases s with ⟨-, e⟩ | ⟨r1, g, e⟩ | ⟨a, x, b, r1, g1, g2, g3, e⟩
  · rw [e] at h; cases h
  · refine ⟨(linesR s).length, ?_⟩
    have hn : (readV s).2.1 = ((linesR s).length : Int) := by
      rw [e] at h ⊢; exact (end_val _ _).1 h
    rcases lines_or s with q | q
    · exact ⟨hn, by rw [q]; exact Nat.le_refl _, fun c => absurd c (by rw [q]; exact Nat.lt_irrefl _), fun c => absurd c (by rw [q]; exact Nat.lt_irrefl _)⟩
    · have hl : (splitV s nl1).length = (linesR s).length + 1 := by rw [q, List.length_append]; rfl
      have ht : (splitV s nl1).take (linesR s).length = linesR s := by rw [q, List.take_left]
      refine ⟨hn, by omega, fun _ c => ?_, fun _ _ => .inr ⟨by omega, ?_⟩⟩
      · have := ahead_val (ahead_lines (hnt (linesR s).length)) (by rw [ht]; exact g) c
        rw [this, List.length_take]; omega
      · rw [q, List.getD_eq_getElem?_getD, List.getElem?_append_right (Nat.le_refl _), Nat.sub_self]; rfl
  · refine ⟨a.length, ?_⟩
    obtain ⟨b2, hS⟩ : ∃ b2, splitV s nl1 = a ++ x :: b2 := by
      rcases lines_or s with q | q
      · exact ⟨b, by rw [q, g1]⟩
      · exact ⟨b ++ [.empty], by rw [q, g1, List.append_assoc]; rfl⟩
    have hl : (splitV s nl1).length = a.length + 1 + b2.length := by rw [hS, List.length_append, List.length_cons]; omega
    have ht : (splitV s nl1).take a.length = a := by rw [hS, List.take_left]
    have ht2 : (splitV s nl1).take (a.length + 1) = a ++ [x] := by
      rw [hS, show a ++ x :: b2 = (a ++ [x]) ++ b2 by simp]
      exact List.take_left' (by simp)
    refine ⟨by rw [e], by omega, fun _ c => ?_, fun _ hs => .inl ?_⟩
    · have := ahead_val (ahead_lines (hnt a.length)) (by rw [ht]; exact g2) c
      rw [this, List.length_take]; omega
    · have hz := take_size s (a.length + 1)
      rw [ht2] at hz ⊢
      have e2 : splitV (joinV (a ++ [x]) nl1 ++ nl1 ++ more) nl1 = (a ++ [x]) ++ splitV more nl1 := by
        rw [split_nl, app_data, app_data, List.append_assoc]
        show (splitC 10 (_ ++ 10 :: more.data.toList)).map bzl = _
        rw [splitC_app2, List.map_append, ← split_nl, ← split_nl, split_joinV (by simp) fun y hy => hnt (a.length + 1) y (by rw [ht2]; exact hy)]
      obtain ⟨c, hc⟩ := lines_front e2 (fun q => by
        have : 0 < (splitV more nl1).length := splitV_pos
        rw [q] at this; cases this)
      have e3 : readV (joinV (a ++ [x]) nl1 ++ nl1 ++ more) = (plan0, (a.length : Int), 10) := by
        unfold readV
        rw [if_neg, hc, List.append_assoc, List.singleton_append, read_stop g2 g3, Int.zero_add]
        rw [ByteArray.size_append, ByteArray.size_append, show nl1.size = 1 from rfl]; omega
      rw [e3]; exact ⟨rfl, rfl⟩

end Go.Proofs.YtnjngpjkhddnfaaGreatDoor
