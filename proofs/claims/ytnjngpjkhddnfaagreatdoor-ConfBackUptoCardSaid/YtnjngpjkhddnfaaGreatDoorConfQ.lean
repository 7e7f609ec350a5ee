/- Lines of a plan's text that can't stand there, plain. -/
import Derived.Test.YtnjngpjkhddnfaaGreatDoorConfP
set_option linter.all false
namespace Go.Proofs.YtnjngpjkhddnfaaGreatDoor
open Go Go.Abs

def endS (r : RdS) (n : Int) : Plan × Int × Int := if r.st = 0 then (plan0, n, 10) else if pchkV r.plan = 0 then (r.plan, 0, 0) else (plan0, 0, pchkV r.plan)
def goS : List ByteArray → RdS → Option RdS
  | [], r => some r
  | l :: t, r => if remB (wordsP l) then goS t r else match lineS r (wordsP l) with
    | none => none
    | some r2 => goS t r2
def badR (r : RdS) (x : ByteArray) : Prop := ¬ remB (wordsP x) ∧ lineS r (wordsP x) = none
theorem read_go : ∀ {a b : List ByteArray} {n : Int} {r r1 : RdS}, goS a r = some r1 → readS (a ++ b) n r = readS b (n + (a.length : Int)) r1
  | [], b, n, r, r1, h => by cases h; simp
  | l :: t, b, n, r, r1, h => by
    rw [goS] at h
    rw [List.cons_append, readS, List.length_cons]
    by_cases q : remB (wordsP l)
    · rw [if_pos q] at h ⊢
      rw [read_go h]; congr 1; omega
    · rw [if_neg q] at h ⊢
      cases e : lineS r (wordsP l) with
      | none => rw [e] at h; cases h
      | some r2 =>
        rw [e] at h
        show readS (t ++ b) (n + 1) r2 = _
        rw [read_go h]; congr 1; omega
theorem read_stop {a b : List ByteArray} {x : ByteArray} {n : Int} {r r1 : RdS} (h : goS a r = some r1) (hx : badR r1 x) : readS (a ++ x :: b) n r = (plan0, n + (a.length : Int), 10) := by
  rw [read_go h, readS, if_neg hx.1, hx.2]
theorem read_two : ∀ (L : List ByteArray) (r : RdS), (∃ r1, goS L r = some r1) ∨ ∃ a x b r1, L = a ++ x :: b ∧ goS a r = some r1 ∧ badR r1 x
  | [], r => .inl ⟨r, rfl⟩
  | l :: t, r => by
    by_cases q : remB (wordsP l)
    · rcases read_two t r with ⟨r1, h⟩ | ⟨a, x, b, r1, h1, h2, h3⟩
      · exact .inl ⟨r1, by rw [goS, if_pos q, h]⟩
      · exact .inr ⟨l :: a, x, b, r1, by rw [h1]; rfl, by rw [goS, if_pos q, h2], h3⟩
    · cases e : lineS r (wordsP l) with
      | none => exact .inr ⟨[], l, t, r, rfl, rfl, q, e⟩
      | some r2 =>
        rcases read_two t r2 with ⟨r1, h⟩ | ⟨a, x, b, r1, h1, h2, h3⟩
        · exact .inl ⟨r1, by rw [goS, if_neg q, e]; exact h⟩
        · exact .inr ⟨l :: a, x, b, r1, by rw [h1]; rfl, by rw [goS, if_neg q, e]; exact h2, h3⟩
theorem pchk_val (p : Plan) : pchkV p = 0 ∨ pchkV p = 1 ∨ pchkV p = 2 ∨ pchkV p = 4 := by
  unfold pchkV
  repeat' split
  all_goals first | exact .inl rfl | exact .inr (.inl rfl) | exact .inr (.inr (.inl rfl)) | exact .inr (.inr (.inr rfl))
theorem end_val (r : RdS) (n : Int) : ((endS r n).2.2 = 10 → (endS r n).2.1 = n) ∧ ((endS r n).2.2 ≠ 10 → (endS r n).2.1 = 0) ∧ ((endS r n).2.2 = 0 → pchkV (endS r n).1 = 0) := by
  unfold endS
  split
  · exact ⟨fun _ => rfl, fun q => absurd rfl q, fun q => absurd (show (10 : Int) = 0 from q) (by decide)⟩
  · split
    · rename_i h; exact ⟨fun q => absurd (show (0 : Int) = 10 from q) (by decide), fun _ => rfl, fun _ => h⟩
    · rename_i h
      refine ⟨fun q => ?_, fun _ => rfl, fun q => absurd q h⟩
      have q : pchkV r.plan = 10 := q
      have := pchk_val r.plan; omega
abbrev r00 : RdS := ⟨0, [], [], 0⟩
theorem rd_cases (s : ByteArray) : (65536 < s.size ∧ readV s = (plan0, 0, 2)) ∨ (∃ r1, goS (linesR s) r00 = some r1 ∧ readV s = endS r1 ((linesR s).length : Int)) ∨ ∃ a x b r1, linesR s = a ++ x :: b ∧ goS a r00 = some r1 ∧ badR r1 x ∧ readV s = (plan0, (a.length : Int), 10) := by
  unfold readV
  split
  · rename_i h; exact .inl ⟨h, rfl⟩
  · rcases read_two (linesR s) r00 with ⟨r1, h⟩ | ⟨a, x, b, r1, h1, h2, h3⟩
    · refine .inr (.inl ⟨r1, h, ?_⟩)
      have := read_go (b := []) (n := 0) h
      rw [List.append_nil] at this
      rw [this, Int.zero_add]; rfl
    · refine .inr (.inr ⟨a, x, b, r1, h1, h2, h3, ?_⟩)
      rw [h1, read_stop h2 h3, Int.zero_add]
theorem rd_ok {s : ByteArray} (h : (readV s).2.2 = 0) : pchkV (readV s).1 = 0 ∧ (readV s).2.1 = 0 := by
  rcases rd_cases s with ⟨-, e⟩ | ⟨r1, -, e⟩ | ⟨a, x, b, r1, -, -, -, e⟩
  · rw [e] at h; cases h
  · rw [e] at h ⊢
    exact ⟨(end_val _ _).2.2 h, (end_val _ _).2.1 (by rw [h]; decide)⟩
  · rw [e] at h; cases h
theorem rd_not {s : ByteArray} (h : ¬ (readV s).2.2 = 10) : (readV s).2.1 = 0 := by
  rcases rd_cases s with ⟨-, e⟩ | ⟨r1, -, e⟩ | ⟨a, x, b, r1, -, -, -, e⟩
  · rw [e]
  · rw [e] at h ⊢
    exact (end_val _ _).2.1 h
  · rw [e] at h; exact absurd rfl h

end Go.Proofs.YtnjngpjkhddnfaaGreatDoor
