/- Programs as texts, plain: what is told is read as it was. -/
import Derived.Test.YtebiaihhpflpgaaDoorPgr6
import Derived.Test.YtebiaihhpflpgaaDoorPgr5
set_option linter.all false
namespace Go.Proofs.YtebiaihhpflpgaaDoor
open Go Go.Abs

theorem parseM_app {M : Nat} : ∀ {a b : List UInt8} {acc v : Nat}, Lib.parseUintM M acc a = .ok v → Lib.parseUintM M acc (a ++ b) = Lib.parseUintM M v b
  | [], b, acc, v, h => by cases h; rfl
  | c :: r, b, acc, v, h => by
    rw [List.cons_append, Lib.parseUintM]
    rw [Lib.parseUintM] at h
    split at h
    · rename_i hc
      rw [if_pos hc]
      split at h
      · cases h
      · rename_i h1
        rw [if_neg h1]
        split at h
        · cases h
        · rename_i h2
          rw [if_neg h2]
          exact parseM_app h
    · cases h
theorem dig_nat {d : Nat} (h : d < 10) : (UInt8.ofNat (48 + d)).toNat = 48 + d := by
  rw [UInt8.toNat_ofNat']; omega
theorem dec_byte : ∀ (k u : Nat), u < 10 ^ k → ∀ b ∈ Lib.decDigits u, 48 ≤ b.toNat ∧ b.toNat ≤ 57
  | 0, u, h, b, hb => by
    have h0 : u < 10 := by simp at h; omega
    rw [Lib.decDigits_one h0] at hb
    rw [List.mem_singleton.1 hb, dig_nat h0]; omega
  | k + 1, u, h, b, hb => by
    by_cases h0 : u < 10
    · rw [Lib.decDigits_one h0] at hb
      rw [List.mem_singleton.1 hb, dig_nat h0]; omega
    · rw [Lib.decDigits, dif_neg h0] at hb
      rcases List.mem_append.1 hb with hb | hb
      · exact dec_byte k (u / 10) (by rw [Nat.pow_succ] at h; omega) b hb
      · rw [List.mem_singleton.1 hb, dig_nat (by omega)]; omega
theorem dec_ne (u : Nat) : Lib.decDigits u ≠ [] := fun h => by
  have e := Lib.decDigits_length u
  have := Lib.nDigits_pos u
  rw [h, List.length_nil] at e; omega
theorem parse_dec : ∀ (k u : Nat), u < 10 ^ k → u < 1000000000000000000 → Lib.parseUintM 18446744073709551615 0 (Lib.decDigits u) = .ok u
  | 0, u, h, _ => by
    have h0 : u = 0 := by simp at h; omega
    subst h0
    rw [Lib.decDigits_one (by decide)]; decide
  | k + 1, u, h, hu => by
    by_cases h0 : u < 10
    · rw [Lib.decDigits_one h0, Lib.parseUintM, dig_nat h0, if_pos ⟨by omega, by omega⟩, if_neg (by omega), if_neg (by omega), Lib.parseUintM]
      congr 1; omega
    · rw [Lib.decDigits, dif_neg h0, parseM_app (parse_dec k (u / 10) (by rw [Nat.pow_succ] at h; omega) (by omega)),
        Lib.parseUintM, dig_nat (by omega), if_pos ⟨by omega, by omega⟩, if_neg (by omega), if_neg (by omega), Lib.parseUintM]
      congr 1; omega
theorem parse_decU {u : Nat} (hu : u < 1000000000000000000) : Lib.parseUintB 64 (Lib.decDigits u) = .ok u := by
  unfold Lib.parseUintB
  rw [if_neg (dec_ne u)]
  exact parse_dec 18 u hu hu
theorem parse_itoa {n : Int} (h : -1000000000000 ≤ n ∧ n ≤ 1000000000000) : Lib.parseIntB 64 (Lib.itoa n) = .ok n := by
  unfold Lib.itoa
  by_cases h0 : n < 0
  · rw [if_pos h0]
    unfold Lib.parseIntB
    dsimp only
    rw [if_pos (.inr rfl), parse_decU (u := n.natAbs) (by omega)]
    dsimp only
    rw [if_neg (fun q => q.1 rfl), if_neg (fun q => by have := q.2; omega), if_pos (show UInt8.toNat 45 = 45 from rfl)]
    congr 1; omega
  · rw [if_neg h0]
    unfold Lib.parseIntB
    have hb := dec_byte 18 n.toNat (by omega)
    have e := parse_decU (u := n.toNat) (by omega)
    cases hd : Lib.decDigits n.toNat with
    | nil => exact absurd hd (dec_ne _)
    | cons c r =>
      have hc := hb c (by rw [hd]; exact List.mem_cons_self ..)
      rw [hd] at e
      dsimp only
      rw [if_neg (by omega), e]
      dsimp only
      rw [if_neg (fun q => by have := q.2; omega), if_neg (fun q => by have := q.1; omega), if_neg (by omega)]
      congr 1; omega
theorem bz_list (l : List UInt8) : (bz l).data.toList = l := by simp [bz]
theorem bz_data (s : ByteArray) : bz s.data.toList = s := by simp [bz]
theorem num_itoa {n : Int} (h : -1000000000000 ≤ n ∧ n ≤ 1000000000000) : numV (itoaB n) = n := by
  unfold numV
  rw [show (itoaB n).data.toList = Lib.itoa n from bz_list _, parse_itoa h]
theorem itoa_byte {n : Int} (h : -1000000000000 ≤ n ∧ n ≤ 1000000000000) : ∀ b ∈ Lib.itoa n, (48 ≤ b.toNat ∧ b.toNat ≤ 57) ∨ b = 45 := by
  intro b hb
  unfold Lib.itoa at hb
  split at hb
  · rcases List.mem_cons.1 hb with hb | hb
    · exact .inr hb
    · exact .inl (dec_byte 18 _ (by omega) b hb)
  · exact .inl (dec_byte 18 _ (by omega) b hb)
theorem itoa_ne (n : Int) : Lib.itoa n ≠ [] := by
  unfold Lib.itoa
  split
  · simp
  · exact dec_ne _
theorem trim_reg (n : Int) : trimV (regV n) rV = itoaB n := by
  have e : (regV n).data.toList = 114 :: Lib.itoa n := by
    show ((rV ++ itoaB n).data).toList = _
    rw [ByteArray.data_append, Array.toList_append, show (itoaB n).data.toList = Lib.itoa n from bz_list _]; rfl
  unfold trimV Lib.trimPrefix
  rw [e, show rV.data.toList = [114] from rfl, if_pos (by simp [Lib.hasPrefix, List.isPrefixOf])]
  rfl
theorem trim_itoa {n : Int} (h : -1000000000000 ≤ n ∧ n ≤ 1000000000000) : trimV (itoaB n) rV = itoaB n := by
  unfold trimV Lib.trimPrefix
  rw [show (itoaB n).data.toList = Lib.itoa n from bz_list _, show rV.data.toList = [114] from rfl, if_neg]
  · rfl
  · cases hd : Lib.itoa n with
    | nil => exact absurd hd (itoa_ne n)
    | cons c r =>
      have := itoa_byte h c (by rw [hd]; exact List.mem_cons_self ..)
      intro q
      simp [Lib.hasPrefix, List.isPrefixOf] at q
      subst q
      rcases this with q | q
      · exact absurd q.2 (by decide)
      · exact absurd q (by decide)
def shapeN (k : Int) : shape := shapesV.getD k.toNat Dat.d0
theorem code_cases {P : Int → Prop} {k : Int} (h : 1 ≤ k ∧ k ≤ 11) (h1 : P 1) (h2 : P 2) (h3 : P 3) (h4 : P 4) (h5 : P 5) (h6 : P 6) (h7 : P 7) (h8 : P 8) (h9 : P 9) (h10 : P 10) (h11 : P 11) : P k := by
  have : k = 1 ∨ k = 2 ∨ k = 3 ∨ k = 4 ∨ k = 5 ∨ k = 6 ∨ k = 7 ∨ k = 8 ∨ k = 9 ∨ k = 10 ∨ k = 11 := by omega
  rcases this with h | h | h | h | h | h | h | h | h | h | h <;> (subst h; assumption)
theorem idx_code {k : Int} (h : 1 ≤ k ∧ k ≤ 11) : idxFrom (shapeN k).word shapesV 0 = k := by
  refine code_cases (P := fun k => idxFrom (shapeN k).word shapesV 0 = k) h ?_ ?_ ?_ ?_ ?_ ?_ ?_ ?_ ?_ ?_ ?_ <;> decide
theorem right_shape {i : Ins} {n : Int} (hn : n ≤ 100) (h : rightB i n = true) : ((shapeN i.code).a = false → i.a = 0) ∧ ((shapeN i.code).b.n = 0 → i.b = 0) ∧ ((shapeN i.code).b.n = 0 ∨ (shapeN i.code).b.n = 110 ∨ (shapeN i.code).b.n = 114) := by
  have hc := (rightB_all hn h).1
  obtain ⟨code, a, b⟩ := i
  revert h
  refine code_cases (P := fun k => rightB ⟨k, a, b⟩ n = true → ((shapeN k).a = false → a = 0) ∧ ((shapeN k).b.n = 0 → b = 0) ∧ ((shapeN k).b.n = 0 ∨ (shapeN k).b.n = 110 ∨ (shapeN k).b.n = 114)) hc ?_ ?_ ?_ ?_ ?_ ?_ ?_ ?_ ?_ ?_ ?_ <;> intro h <;> refine ⟨fun q => ?_, fun q => ?_, by decide⟩ <;> first
    | exact absurd q (by decide)
    | (simp [rightB] at h; first | exact h.1 | exact h.2)
theorem arg_reg {w : List ByteArray} {k : Nat} {n : Int} (h : w.getD k Dat.d0 = regV n) (hn : -1000000000000 ≤ n ∧ n ≤ 1000000000000) : argV w k = n := by
  unfold argV
  rw [h, trim_reg, num_itoa hn]
theorem arg_num {w : List ByteArray} {k : Nat} {n : Int} (h : w.getD k Dat.d0 = itoaB n) (hn : -1000000000000 ≤ n ∧ n ≤ 1000000000000) : argV w k = n := by
  unfold argV
  rw [h, trim_itoa hn, num_itoa hn]
theorem ins_words {i : Ins} {n : Int} (hn : n ≤ 100) (h : rightB i n = true) : insV (shapeN i.code) i.code (wordsV (shapeN i.code) i) = i := by
  obtain ⟨hc, ha, hb⟩ := rightB_all hn h
  obtain ⟨h1, h2, h3⟩ := right_shape hn h
  generalize shapeN i.code = s at *
  obtain ⟨w, sa, ⟨sb⟩⟩ := s
  obtain ⟨code, a, b⟩ := i
  dsimp only at h1 h2 h3 ha hb
  have hA : -1000000000000 ≤ a ∧ a ≤ 1000000000000 := by omega
  have hB : -1000000000000 ≤ b ∧ b ≤ 1000000000000 := by omega
  cases sa with
  | true =>
    rcases h3 with h3 | h3 | h3 <;> subst h3
    · have : wordsV ⟨w, true, ⟨0⟩⟩ ⟨code, a, b⟩ = [w, regV a] := rfl
      rw [this]
      exact ins_eq ((insA_t rfl (by simp)).trans (arg_reg rfl hA)) ((insB_0 rfl).trans (h2 rfl).symm)
    · have : wordsV ⟨w, true, ⟨110⟩⟩ ⟨code, a, b⟩ = [w, regV a, itoaB b] := rfl
      rw [this]
      exact ins_eq ((insA_t rfl (by simp)).trans (arg_reg rfl hA)) ((insB_2 (show ¬ (110 : Int) = 0 by decide) rfl (by simp)).trans (arg_num rfl hB))
    · have : wordsV ⟨w, true, ⟨114⟩⟩ ⟨code, a, b⟩ = [w, regV a, regV b] := rfl
      rw [this]
      exact ins_eq ((insA_t rfl (by simp)).trans (arg_reg rfl hA)) ((insB_2 (show ¬ (114 : Int) = 0 by decide) rfl (by simp)).trans (arg_reg rfl hB))
  | false =>
    have a0 := h1 rfl
    subst a0
    rcases h3 with h3 | h3 | h3 <;> subst h3
    · have : wordsV ⟨w, false, ⟨0⟩⟩ ⟨code, 0, b⟩ = [w] := rfl
      rw [this]
      exact ins_eq (insA_f rfl) ((insB_0 rfl).trans (h2 rfl).symm)
    · have : wordsV ⟨w, false, ⟨110⟩⟩ ⟨code, 0, b⟩ = [w, itoaB b] := rfl
      rw [this]
      exact ins_eq (insA_f rfl) ((insB_1 (show ¬ (110 : Int) = 0 by decide) rfl (by simp)).trans (arg_num rfl hB))
    · have : wordsV ⟨w, false, ⟨114⟩⟩ ⟨code, 0, b⟩ = [w, regV b] := rfl
      rw [this]
      exact ins_eq (insA_f rfl) ((insB_1 (show ¬ (114 : Int) = 0 by decide) rfl (by simp)).trans (arg_reg rfl hB))
theorem halts_ok {i : Ins} (h : rightB i 100 = true) : checkP (List.replicate 99 haltI ++ [i]) = 0 := by
  refine check_iff.2 ⟨by rw [List.length_append, halt_l, List.length_singleton]; decide, fun j hj => ?_⟩
  rw [List.length_append, halt_l, List.length_singleton]
  rcases List.mem_append.1 hj with hj | hj
  · rw [List.eq_of_mem_replicate hj]; decide
  · rw [List.mem_singleton.1 hj]; exact h
theorem words_hd (s : shape) (i : Ins) : (wordsV s i).getD 0 Dat.d0 = s.word := by
  unfold wordsV; rfl
theorem words_pos (s : shape) (i : Ins) : 0 < (wordsV s i).length := by
  unfold wordsV; simp
theorem read_words {l : ByteArray} {i : Ins} {n : Int} (hn : n ≤ 100) (h : rightB i n = true) (hw : wordsL l = wordsV (shapeN i.code) i) : readL l = .ins i := by
  have hc := (rightB_all hn h).1
  have e := ins_words hn h
  have e2 : ((i.code.toNat : Nat) : Int) = i.code := by omega
  have er : readV (shapesV.getD i.code.toNat Dat.d0) (i.code.toNat : Nat) (wordsL l) = (i, true) := by
    have q : ∀ x, x = i → (x, decide (wordsV (shapeN i.code) x = wordsV (shapeN i.code) i)) = (i, true) := fun x hx => by rw [hx, decide_eq_true rfl]
    rw [e2, hw]
    exact q _ e
  have := read_ok (l := l) (j := i.code.toNat) rfl (by rw [hw]; exact words_pos _ _) (by rw [hw, words_hd, idx_code hc, e2]) (by omega) (by rw [er]) (by rw [er]; exact halts_ok (rightB_up hn h))
  rw [er] at this
  exact this
theorem read_congr {l m : ByteArray} (h : wordsL l = wordsL m) : readL l = readL m := by
  unfold readL; rw [h]

def insL (l : ByteArray) : List Ins := match readL l with
  | .ins i => [i]
  | _ => []
def finV (out : List Ins) : List Ins × Int × Int := if checkP out = 0 then (out, 0, 0) else ([], 0, checkP out)
theorem parse_all : ∀ {L : List ByteArray} {n : Int} {out : List Ins}, (∀ l ∈ L, readL l ≠ .bad) → parseL L n out = finV (out ++ L.flatMap insL)
  | [], n, out, _ => by rw [parseL, List.flatMap_nil, List.append_nil]; rfl
  | l :: r, n, out, h => by
    have h1 := h l (List.mem_cons_self ..)
    have h2 : ∀ l ∈ r, readL l ≠ .bad := fun x hx => h x (List.mem_cons_of_mem _ hx)
    rw [parseL, List.flatMap_cons]
    unfold insL
    cases e : readL l with
    | bad => exact absurd e h1
    | no => exact parse_all h2
    | ins i => exact (parse_all h2).trans (by rw [List.append_assoc]; rfl)
theorem parse_stop : ∀ {a : List ByteArray} {x : ByteArray} {b : List ByteArray} {n : Int} {out : List Ins}, (∀ l ∈ a, readL l ≠ .bad) → readL x = .bad → parseL (a ++ x :: b) n out = ([], n + (a.length : Int), 10)
  | [], x, b, n, out, _, hx => by rw [List.nil_append, parseL, hx]; simp
  | l :: r, x, b, n, out, h, hx => by
    have h1 := h l (List.mem_cons_self ..)
    have h2 : ∀ l ∈ r, readL l ≠ .bad := fun y hy => h y (List.mem_cons_of_mem _ hy)
    rw [List.cons_append, parseL]
    cases e : readL l with
    | bad => exact absurd e h1
    | no => rw [show (l :: r).length = r.length + 1 from rfl]; exact (parse_stop h2 hx).trans (by congr 2; omega)
    | ins i => rw [show (l :: r).length = r.length + 1 from rfl]; exact (parse_stop h2 hx).trans (by congr 2; omega)
theorem check_val (p : List Ins) : checkP p = 0 ∨ checkP p = 2 ∨ checkP p = 4 := by
  unfold checkP
  split
  · exact .inr (.inl rfl)
  · split
    · exact .inl rfl
    · exact .inr (.inr rfl)
theorem fin_val (o : List Ins) : (finV o).2.1 = 0 ∧ ((finV o).2.2 = 0 ∨ (finV o).2.2 = 2 ∨ (finV o).2.2 = 4) ∧ ((finV o).2.2 = 0 → (finV o).1 = o ∧ checkP o = 0) ∧ ((finV o).2.2 ≠ 0 → (finV o).1 = []) := by
  unfold finV
  by_cases h : checkP o = 0
  · rw [if_pos h]; exact ⟨rfl, .inl rfl, fun _ => ⟨rfl, h⟩, fun q => absurd rfl q⟩
  · rw [if_neg h]; exact ⟨rfl, check_val o, fun q => absurd q h, fun _ => rfl⟩
theorem lines_two : ∀ (L : List ByteArray), (∀ l ∈ L, readL l ≠ .bad) ∨ ∃ a x b, L = a ++ x :: b ∧ (∀ l ∈ a, readL l ≠ .bad) ∧ readL x = .bad
  | [] => .inl fun _ h => by cases h
  | l :: r => by
    cases e : readL l with
    | bad => exact .inr ⟨[], l, r, rfl, (fun _ h => by cases h), e⟩
    | no =>
      rcases lines_two r with h | ⟨a, x, b, h1, h2, h3⟩
      · refine .inl fun y hy => ?_
        rcases List.mem_cons.1 hy with hy | hy
        · rw [hy, e]; exact LineR.noConfusion
        · exact h y hy
      · refine .inr ⟨l :: a, x, b, by rw [h1]; rfl, fun y hy => ?_, h3⟩
        rcases List.mem_cons.1 hy with hy | hy
        · rw [hy, e]; exact LineR.noConfusion
        · exact h2 y hy
    | ins i =>
      rcases lines_two r with h | ⟨a, x, b, h1, h2, h3⟩
      · refine .inl fun y hy => ?_
        rcases List.mem_cons.1 hy with hy | hy
        · rw [hy, e]; exact LineR.noConfusion
        · exact h y hy
      · refine .inr ⟨l :: a, x, b, by rw [h1]; rfl, fun y hy => ?_, h3⟩
        rcases List.mem_cons.1 hy with hy | hy
        · rw [hy, e]; exact LineR.noConfusion
        · exact h2 y hy
def wordB (b : UInt8) : Prop := b ≠ 59 ∧ b ≠ 32 ∧ b ≠ 10
theorem itoa_word {n : Int} (h : -1000000000000 ≤ n ∧ n ≤ 1000000000000) : (itoaB n).data.toList ≠ [] ∧ ∀ b ∈ (itoaB n).data.toList, wordB b := by
  rw [show (itoaB n).data.toList = Lib.itoa n from bz_list _]
  refine ⟨itoa_ne n, fun b hb => ?_⟩
  rcases itoa_byte h b hb with q | q
  · refine ⟨fun e => ?_, fun e => ?_, fun e => ?_⟩ <;> subst e <;> revert q <;> decide
  · subst q; exact ⟨by decide, by decide, by decide⟩
theorem reg_word {n : Int} (h : -1000000000000 ≤ n ∧ n ≤ 1000000000000) : (regV n).data.toList ≠ [] ∧ ∀ b ∈ (regV n).data.toList, wordB b := by
  have e : (regV n).data.toList = 114 :: (itoaB n).data.toList := by
    show ((rV ++ itoaB n).data).toList = _
    rw [ByteArray.data_append, Array.toList_append]; rfl
  rw [e]
  refine ⟨List.cons_ne_nil _ _, fun b hb => ?_⟩
  rcases List.mem_cons.1 hb with q | q
  · subst q; exact ⟨by decide, by decide, by decide⟩
  · exact (itoa_word h).2 b q
theorem shape_wordB {k : Int} (h : 1 ≤ k ∧ k ≤ 11) : (shapeN k).word.data.toList ≠ [] ∧ ∀ b ∈ (shapeN k).word.data.toList, wordB b := by
  have : ∀ k : Fin 12, 1 ≤ k.1 → (shapesV.getD k.1 Dat.d0).word.data.toList ≠ [] ∧ ∀ b ∈ (shapesV.getD k.1 Dat.d0).word.data.toList, b ≠ 59 ∧ b ≠ 32 ∧ b ≠ 10 := by decide
  exact this ⟨k.toNat, by omega⟩ (by show 1 ≤ k.toNat; omega)
theorem words_word {i : Ins} {n : Int} (hn : n ≤ 100) (h : rightB i n = true) : ∀ x ∈ wordsV (shapeN i.code) i, x.data.toList ≠ [] ∧ ∀ b ∈ x.data.toList, wordB b := by
  obtain ⟨hc, ha, hb⟩ := rightB_all hn h
  have h1 := shape_wordB hc
  generalize shapeN i.code = s at *
  intro x hx
  unfold wordsV at hx
  rcases List.mem_append.1 hx with hx | hx
  · rcases List.mem_append.1 hx with hx | hx
    · rw [List.mem_singleton.1 hx]; exact h1
    · split at hx
      · rw [List.mem_singleton.1 hx]; exact reg_word (by omega)
      · cases hx
  · split at hx
    · rw [List.mem_singleton.1 hx]; exact reg_word (by omega)
    · split at hx
      · rw [List.mem_singleton.1 hx]; exact itoa_word (by omega)
      · cases hx
def wdsC (l : List UInt8) : List (List UInt8) := (splitC 32 (cutC 59 l)).filter (fun x => decide (x ≠ []))
theorem wordsL_bz (l : ByteArray) : wordsL l = (wdsC l.data.toList).map bz := by
  unfold wordsL wdsC
  rw [show splitV (cutV l semB).1 sp1 = _ from splitV_one 32 _, show (cutV l semB).1.data.toList = cutC 59 l.data.toList from (bz_list _).trans (cut_one _), List.filter_map]
  congr 1
  refine List.filter_congr fun x _ => ?_
  show decide (bz x ≠ .empty) = _
  refine decide_eq_decide.2 (not_congr ⟨fun e => ?_, fun e => by rw [e]; rfl⟩)
  rw [← bz_list x, e]; rfl
theorem mem_join {c : UInt8} : ∀ {ws : List (List UInt8)} {b : UInt8}, b ∈ Lib.join ws [c] → b = c ∨ ∃ x ∈ ws, b ∈ x
  | [], b, h => by rw [Lib.join_nil] at h; cases h
  | [x], b, h => by rw [Lib.join_one] at h; exact .inr ⟨x, List.mem_cons_self .., h⟩
  | x :: y :: r, b, h => by
    rw [join_cc] at h
    rcases List.mem_append.1 h with h | h
    · exact .inr ⟨x, List.mem_cons_self .., h⟩
    · rcases List.mem_cons.1 h with h | h
      · exact .inl h
      · rcases mem_join h with h | ⟨z, h1, h2⟩
        · exact .inl h
        · exact .inr ⟨z, List.mem_cons_of_mem _ h1, h2⟩
theorem wds_join {ws : List (List UInt8)} (h0 : ws ≠ []) (h : ∀ x ∈ ws, x ≠ [] ∧ ∀ b ∈ x, wordB b) : wdsC (Lib.join ws [32]) = ws := by
  unfold wdsC
  rw [cutC_no, splitC_join h0 fun x hx q => ((h x hx).2 32 q).2.1 rfl]
  · refine List.filter_eq_self.2 fun x hx => decide_eq_true (h x hx).1
  · intro q
    rcases mem_join q with q | ⟨x, h1, h2⟩
    · exact absurd q (by decide)
    · exact ((h x h1).2 59 h2).1 rfl
def insT (i : Ins) : List UInt8 := Lib.join ((wordsV (shapeN i.code) i).map (·.data.toList)) [32]
theorem insT_words {i : Ins} {n : Int} (hn : n ≤ 100) (h : rightB i n = true) : wdsC (insT i) = (wordsV (shapeN i.code) i).map (·.data.toList) := by
  refine wds_join (fun e => ?_) fun x hx => ?_
  · have := words_pos (shapeN i.code) i
    rw [← List.length_map (f := (·.data.toList)), e] at this; exact absurd this (by decide)
  · obtain ⟨y, hy, rfl⟩ := List.mem_map.1 hx
    exact words_word hn h y hy
theorem insT_no {i : Ins} {n : Int} (hn : n ≤ 100) (h : rightB i n = true) {b : UInt8} (hb : b ∈ insT i) : b ≠ 59 ∧ b ≠ 10 := by
  rcases mem_join hb with q | ⟨x, h1, h2⟩
  · subst q; exact ⟨by decide, by decide⟩
  · obtain ⟨y, hy, rfl⟩ := List.mem_map.1 h1
    have := (words_word hn h y hy).2 b h2
    exact ⟨this.1, this.2.2⟩
theorem map_bz (l : List ByteArray) : (l.map (·.data.toList)).map bz = l := by
  rw [List.map_map]
  have : (bz ∘ fun x : ByteArray => x.data.toList) = id := by funext x; exact bz_data x
  rw [this, List.map_id]
theorem read_wds {l : List UInt8} {i : Ins} {n : Int} (hn : n ≤ 100) (h : rightB i n = true) (e : wdsC l = wdsC (insT i)) : readL (bz l) = .ins i := by
  refine read_words hn h ?_
  rw [wordsL_bz, bz_list, e, insT_words hn h, map_bz]
theorem read_none {l : List UInt8} (e : wdsC l = []) : readL (bz l) = .no := by
  unfold readL
  rw [wordsL_bz, bz_list, e]; rfl
theorem lines_data : ∀ (p : List Ins), (linesV p).data.toList = p.flatMap fun i => insT i ++ [10]
  | [] => rfl
  | i :: r => by
    show ((lineV i ++ linesV r).data).toList = _
    rw [ByteArray.data_append, Array.toList_append, lines_data r, List.flatMap_cons]
    congr 1
theorem split_lines : ∀ {p : List Ins}, (∀ i ∈ p, (10 : UInt8) ∉ insT i) → splitC 10 (p.flatMap fun i => insT i ++ [10]) = p.map insT ++ [[]]
  | [], _ => rfl
  | i :: r, h => by
    rw [List.flatMap_cons, List.append_assoc]
    show splitC 10 (insT i ++ 10 :: List.flatMap (fun i => insT i ++ [10]) r) = _
    rw [splitC_app (h i (List.mem_cons_self ..)), split_lines fun j hj => h j (List.mem_cons_of_mem _ hj)]; rfl
theorem split_print {p : List Ins} (h : checkP p = 0) : splitV (linesV p) nl1 = (p.map insT ++ [[]]).map bz := by
  obtain ⟨h1, h2⟩ := check_iff.1 h
  have h1' : (p.length : Int) ≤ 100 := by omega
  show splitV (linesV p) ⟨#[10]⟩ = _
  rw [splitV_one, lines_data, split_lines fun i hi q => (insT_no h1' (h2 i hi) q).2 rfl]; rfl
theorem flat_ins : ∀ {p : List Ins} {n : Int}, n ≤ 100 → (∀ i ∈ p, rightB i n = true) → (∀ l ∈ (p.map insT).map bz, readL l ≠ .bad) ∧ ((p.map insT).map bz).flatMap insL = p
  | [], n, _, _ => ⟨fun _ h => (by cases h), rfl⟩
  | i :: r, n, hn, h => by
    have e := read_wds hn (h i (List.mem_cons_self ..)) rfl
    obtain ⟨h1, h2⟩ := flat_ins (p := r) hn fun j hj => h j (List.mem_cons_of_mem _ hj)
    refine ⟨fun l hl => ?_, ?_⟩
    · rcases List.mem_cons.1 hl with q | q
      · rw [q, e]; exact LineR.noConfusion
      · exact h1 l q
    · show insL (bz (insT i)) ++ List.flatMap insL ((r.map insT).map bz) = _
      rw [h2]; unfold insL; rw [e]; rfl
theorem parse_print {p : List Ins} (h : checkP p = 0) : parseV (linesV p) = (p, 0, 0) := by
  obtain ⟨h1, h2⟩ := check_iff.1 h
  have h1' : (p.length : Int) ≤ 100 := by omega
  have hs := (linesV_size fun i hi => right_in h1' (h2 i hi)).1
  unfold parseV
  obtain ⟨g1, g2⟩ := flat_ins h1' h2
  have e0 : readL (bz []) = .no := read_none rfl
  rw [if_neg (by omega), split_print h, List.map_append, parse_all, List.nil_append, List.flatMap_append, g2]
  · have : List.flatMap insL (List.map bz [[]]) = [] := by
      show insL (bz []) ++ [] = []
      unfold insL; rw [e0]; rfl
    rw [this, List.append_nil]
    unfold finV
    rw [if_pos h]
  · intro l hl
    rcases List.mem_append.1 hl with q | q
    · exact g1 l q
    · rw [List.mem_singleton.1 q, e0]; exact LineR.noConfusion
theorem parse_three (s : ByteArray) : ((parseV s).2.2 = 0 ∧ checkP (parseV s).1 = 0 ∧ (parseV s).2.1 = 0) ∨ ((parseV s).2.2 ≠ 0 ∧ (parseV s).1 = [] ∧ ((parseV s).2.2 ≠ 10 → (parseV s).2.1 = 0)) := by
  unfold parseV
  split
  · exact .inr ⟨by decide, rfl, fun _ => rfl⟩
  · rcases lines_two (splitV s nl1) with h | ⟨a, x, b, h1, h2, h3⟩
    · rw [parse_all h]
      obtain ⟨f1, f2, f3, f4⟩ := fin_val ([] ++ (splitV s nl1).flatMap insL)
      by_cases q : (finV ([] ++ (splitV s nl1).flatMap insL)).2.2 = 0
      · exact .inl ⟨q, by rw [(f3 q).1]; exact (f3 q).2, f1⟩
      · exact .inr ⟨q, f4 q, fun _ => f1⟩
    · rw [h1, parse_stop h2 h3]
      exact .inr ⟨(by decide : (10 : Int) ≠ 0), rfl, fun q => absurd rfl q⟩

end Go.Proofs.YtebiaihhpflpgaaDoor
