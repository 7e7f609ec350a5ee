/- Told widely and read again, plain. -/
import Derived.Test.YtebiaihhpflpgaaDoorPgrB
import Derived.Test.YtebiaihhpflpgaaDoorStrs3
import Derived.Test.YtebiaihhpflpgaaDoorStrs4
set_option linter.all false
namespace Go.Proofs.YtebiaihhpflpgaaDoor
open Go Go.Abs

def sp2 : ByteArray := ⟨#[32, 32]⟩
def blankL (note : ByteArray) : List ByteArray := [sp2, semB ++ note]
def sepB (note : ByteArray) : ByteArray := ⟨#[32, 59]⟩ ++ note ++ ⟨#[10, 32, 32]⟩
theorem no_nl {s : ByteArray} (h : Lib.contains s.data.toList [10] = false) : (10 : UInt8) ∉ s.data.toList := by
  rcases index_one (c := 10) s.data.toList with ⟨h1, -⟩ | ⟨a, b, -, -, h2⟩
  · exact h1
  · unfold Lib.contains at h
    rw [h2] at h
    exact absurd (of_decide_eq_false h) (by omega)
theorem sep_data (note : ByteArray) : (sepB note).data.toList = 32 :: 59 :: note.data.toList ++ [10, 32, 32] := by
  unfold sepB
  rw [app_data, app_data]; rfl
theorem blank_data (note : ByteArray) : (blankL note).map (·.data.toList) = [[32, 32], 59 :: note.data.toList] := by
  show [sp2.data.toList, (semB ++ note).data.toList] = _
  rw [app_data]; rfl
def wideV (s note : ByteArray) (k : Nat) : ByteArray := replV (joinV (insR (splitV s nl1) (blankL note) k) (sepB note)) sp1 sp2
theorem print_ok2 {p : List Ins} (h : (printV p).2 = 0) : checkP p = 0 ∧ (printV p).1 = linesV p := by
  unfold printV at h ⊢
  split at h
  · rename_i c; rw [if_pos c]; exact ⟨c, rfl⟩
  · rename_i c; exact absurd h c
theorem wide_list {p : List Ins} (hc : checkP p = 0) (note : ByteArray) (k : Nat) : wideV (linesV p) note k = bz (dblC (Lib.join (insB (p.map insT ++ [[]]) k [[32, 32], 59 :: note.data.toList]) (32 :: 59 :: note.data.toList ++ [10, 32, 32]))) := by
  unfold wideV replV
  show bz (Lib.replaceAll (joinV _ _).data.toList [32] [32, 32]) = _
  rw [repl_dbl]
  show bz (dblC (bz (Lib.join _ _)).data.toList) = _
  rw [bz_list, sep_data]
  congr 3
  unfold insR insB
  rw [List.map_append, List.map_append, List.map_take, List.map_drop, blank_data, split_print hc, List.map_map]
  have : ((fun x : ByteArray => x.data.toList) ∘ bz) = id := by funext x; exact bz_list x
  rw [this, List.map_id]
theorem blank_law {p : List Ins} (h : (printV p).2 = 0) {note : ByteArray} (hn : Lib.contains note.data.toList [10] = false) (k : Nat) (hs : (wideV (printV p).1 note k).size ≤ 10000) : parseV (wideV (printV p).1 note k) = (p, 0, 0) := by
  obtain ⟨hc, e⟩ := print_ok2 h
  rw [e] at hs ⊢
  unfold parseV
  rw [if_neg (by omega), wide_list hc]
  exact wide_parse hc k _ (no_nl hn)
theorem large_law {s : ByteArray} (h : ¬ s.size ≤ 10000) : parseV s = ([], 0, 2) := by
  unfold parseV
  rw [if_pos (by omega)]
theorem join_le3 {s : List UInt8} {k : Nat} : ∀ {L : List (List UInt8)}, (∀ x ∈ L, x.length ≤ k) → (Lib.join L s).length ≤ L.length * (k + s.length)
  | [], _ => by rw [Lib.join_nil]; exact Nat.zero_le _
  | [x], h => by
    have := h x (List.mem_cons_self ..)
    rw [Lib.join_one, List.length_singleton]; omega
  | x :: y :: r, h => by
    have h1 := h x (List.mem_cons_self ..)
    have h2 := join_le3 (s := s) (L := y :: r) fun z hz => h z (List.mem_cons_of_mem _ hz)
    rw [join_sep, List.length_append, List.length_append, List.length_cons, Nat.add_mul]
    omega
theorem sepB_size (note : ByteArray) : (sepB note).size = note.size + 5 := by
  rw [data_size, sep_data, data_size]; simp
theorem ins_size {s note : ByteArray} (hs : s.size + note.size ≤ 3000) (k : Nat) : (joinV (insR (splitV s nl1) (blankL note) k) (sepB note)).size ≤ 18045027 := by
  have e : (joinV (insR (splitV s nl1) (blankL note) k) (sepB note)).size = (Lib.join ((insR (splitV s nl1) (blankL note) k).map (·.data.toList)) (sepB note).data.toList).length := bz_size _
  rw [e]
  have hx : ∀ x ∈ (insR (splitV s nl1) (blankL note) k).map (·.data.toList), x.length ≤ 3002 := fun x hx => by
    obtain ⟨y, hy, rfl⟩ := List.mem_map.1 hx
    show y.data.toList.length ≤ _
    rw [← data_size]
    have hl : ∀ z ∈ splitV s nl1, z.size ≤ 3002 := fun z hz => by have := splitV_le hz; omega
    rcases List.mem_append.1 hy with hy | hy
    · rcases List.mem_append.1 hy with hy | hy
      · exact hl y (List.mem_of_mem_take hy)
      · rcases List.mem_cons.1 hy with hy | hy
        · rw [hy]; decide
        · rw [List.mem_singleton.1 hy, ByteArray.size_append, show semB.size = 1 from rfl]; omega
    · exact hl y (List.mem_of_mem_drop hy)
  refine Nat.le_trans (join_le3 hx) ?_
  rw [List.length_map, ← data_size, sepB_size]
  have hl : (insR (splitV s nl1) (blankL note) k).length ≤ 3003 := by
    have := splitV_len (c := 10) (s := s)
    have this : (splitV s nl1).length ≤ s.size + 1 := this
    unfold insR
    rw [List.length_append, List.length_append, List.length_take, List.length_drop, show (blankL note).length = 2 from rfl]
    omega
  have h9 : 3002 + (note.size + 5) ≤ 6009 := by omega
  exact Nat.mul_le_mul hl h9
theorem cnt_le (s : ByteArray) : Lib.countB s sp1 ≤ s.size := by
  have e : Lib.countB s ⟨#[32]⟩ = s.data.toList.count 32 := Lib.count_one _ _
  show Lib.countB s ⟨#[32]⟩ ≤ _
  rw [e, data_size]; exact List.count_le_length

end Go.Proofs.YtebiaihhpflpgaaDoor
