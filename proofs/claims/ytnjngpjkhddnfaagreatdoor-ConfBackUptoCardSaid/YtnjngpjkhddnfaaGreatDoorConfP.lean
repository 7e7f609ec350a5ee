/- Plans as texts, plain: what is told is read as it was. -/
import Derived.Test.YtnjngpjkhddnfaaGreatDoorConf3
set_option linter.all false
namespace Go.Proofs.YtnjngpjkhddnfaaGreatDoor
open Go Go.Abs

theorem parseM_app {M : Nat} : ∀ {a b : List UInt8} {acc v : Nat}, Lib.parseUintM M acc a = .ok v → Lib.parseUintM M acc (a ++ b) = Lib.parseUintM M v b
  | [], b, acc, v, h => by cases h; rfl
  | c :: r, b, acc, v, h => by
    rw [List.cons_append, Lib.parseUintM]
    rw [Lib.parseUintM] at h
    split at h
    · rename_i hc
      rw [if_pos hc]
      split at h
      · cases h
      · rename_i h1
        rw [if_neg h1]
        split at h
        · cases h
        · rename_i h2
          rw [if_neg h2]
          exact parseM_app h
    · cases h
theorem dig_nat {d : Nat} (h : d < 10) : (UInt8.ofNat (48 + d)).toNat = 48 + d := by
  rw [UInt8.toNat_ofNat']; omega
theorem dec_byte : ∀ (k u : Nat), u < 10 ^ k → ∀ b ∈ Lib.decDigits u, 48 ≤ b.toNat ∧ b.toNat ≤ 57
  | 0, u, h, b, hb => by
    have h0 : u < 10 := by simp at h; omega
    rw [Lib.decDigits_one h0] at hb
    rw [List.mem_singleton.1 hb, dig_nat h0]; omega
  | k + 1, u, h, b, hb => by
    by_cases h0 : u < 10
    · rw [Lib.decDigits_one h0] at hb
      rw [List.mem_singleton.1 hb, dig_nat h0]; omega
    · rw [Lib.decDigits, dif_neg h0] at hb
      rcases List.mem_append.1 hb with hb | hb
      · exact dec_byte k (u / 10) (by rw [Nat.pow_succ] at h; omega) b hb
      · rw [List.mem_singleton.1 hb, dig_nat (by omega)]; omega
theorem dec_ne (u : Nat) : Lib.decDigits u ≠ [] := fun h => by
  have e := Lib.decDigits_length u
  have := Lib.nDigits_pos u
  rw [h, List.length_nil] at e; omega
theorem dec_len : ∀ (k u : Nat), u < 10 ^ (k + 1) → (Lib.decDigits u).length ≤ k + 1
  | 0, u, h => by rw [Lib.decDigits_one (by omega)]; exact Nat.le_refl _
  | k + 1, u, h => by
    by_cases h0 : u < 10
    · rw [Lib.decDigits_one h0]; exact Nat.succ_le_succ (Nat.zero_le _)
    · rw [Lib.decDigits, dif_neg h0, List.length_append, List.length_singleton]
      exact Nat.succ_le_succ (dec_len k (u / 10) (by rw [Nat.pow_succ] at h; omega))
theorem parse_dec : ∀ (k u : Nat), u < 10 ^ k → u < 100000000 → Lib.parseUintM 4294967295 0 (Lib.decDigits u) = .ok u
  | 0, u, h, _ => by
    have h0 : u = 0 := by simp at h; omega
    subst h0
    rw [Lib.decDigits_one (by decide)]; decide
  | k + 1, u, h, hu => by
    by_cases h0 : u < 10
    · rw [Lib.decDigits_one h0, Lib.parseUintM, dig_nat h0, if_pos ⟨by omega, by omega⟩, if_neg (by omega), if_neg (by omega), Lib.parseUintM]
      congr 1; omega
    · rw [Lib.decDigits, dif_neg h0, parseM_app (parse_dec k (u / 10) (by rw [Nat.pow_succ] at h; omega) (by omega)),
        Lib.parseUintM, dig_nat (by omega), if_pos ⟨by omega, by omega⟩, if_neg (by omega), if_neg (by omega), Lib.parseUintM]
      congr 1; omega
theorem bzl_list (l : List UInt8) : (bzl l).data.toList = l := by simp [bzl]
theorem bzl_size (l : List UInt8) : (bzl l).size = l.length := List.size_toArray ..
theorem itoa_dec {n : Int} (h : 0 ≤ n) : Lib.itoa n = Lib.decDigits n.toNat := by
  unfold Lib.itoa
  rw [if_neg (by omega)]
theorem ok_itoa {n : Int} (h : 0 ≤ n ∧ n ≤ 1000000) : numU (itoaB n) = n ∧ okNu (itoaB n) = true := by
  have e0 : (itoaB n).data.toList = Lib.decDigits n.toNat := (bzl_list _).trans (itoa_dec h.1)
  have e1 : Lib.parseUintB 32 (itoaB n).data.toList = .ok n.toNat := by
    rw [e0]
    unfold Lib.parseUintB
    rw [if_neg (dec_ne _)]
    exact parse_dec 8 n.toNat (by omega) (by omega)
  have e2 : numU (itoaB n) = n := by
    unfold numU
    rw [e1]
    show ((n.toNat : Nat) : Int) = n
    omega
  refine ⟨e2, ?_⟩
  have e3 : (itoaB n).size ≤ 9 := by
    show (bzl (Lib.itoa n)).size ≤ 9
    rw [bzl_size, itoa_dec h.1]
    have := dec_len 6 n.toNat (by omega)
    omega
  have e4 : decB n = itoaB n := by
    show bzl (Lib.decDigits n.toNat) = bzl (Lib.itoa n)
    rw [itoa_dec h.1]
  have e5 : okU (itoaB n) = true := by unfold okU; rw [e1]
  rw [okNu, e2, e4, e5, decide_eq_true e3, decide_eq_true rfl]; rfl
def numIn (n : Int) : Prop := 0 ≤ n ∧ n ≤ 1000000
theorem nums_row {l : List Int} (h : ∀ n ∈ l, numIn n) : numsV (l.map itoaB) (l.length : Int) = (l, true) := by
  unfold numsV
  rw [if_pos]
  · rw [List.length_map, List.map_map, decide_eq_true rfl]
    have : l.map (numU ∘ itoaB) = l := by
      show l.map (fun n => numU (itoaB n)) = l
      rw [List.map_congr_left fun n hn => (ok_itoa (h n hn)).1, List.map_id']
    rw [this]
  · rw [List.all_map, List.all_eq_true]
    exact fun n hn => (ok_itoa (h n hn)).2
theorem itoa_word {n : Int} (h : numIn n) : Lib.itoa n ≠ [] ∧ (32 : UInt8) ∉ Lib.itoa n ∧ (10 : UInt8) ∉ Lib.itoa n := by
  rw [itoa_dec h.1]
  have hb := dec_byte 7 n.toNat (by have := h.2; omega)
  exact ⟨dec_ne _, fun q => by have := (hb _ q).1; revert this; decide, fun q => by have := (hb _ q).1; revert this; decide⟩
def lineT (w : List UInt8) : List Int → List UInt8
  | [] => w
  | n :: r => w ++ 32 :: lineT (Lib.itoa n) r
theorem line_split : ∀ {w : List UInt8} {l : List Int}, (32 : UInt8) ∉ w → (∀ n ∈ l, numIn n) → splitC 32 (lineT w l) = w :: l.map Lib.itoa
  | w, [], hw, _ => splitC_pre hw
  | w, n :: r, hw, h => by
    rw [lineT, splitC_app hw, line_split (itoa_word (h n (List.mem_cons_self ..))).2.1 fun x hx => h x (List.mem_cons_of_mem _ hx)]; rfl
theorem line_no : ∀ {w : List UInt8} {l : List Int}, (10 : UInt8) ∉ w → (∀ n ∈ l, numIn n) → (10 : UInt8) ∉ lineT w l
  | w, [], hw, _ => hw
  | w, n :: r, hw, h => by
    rw [lineT]
    intro q
    rcases List.mem_append.1 q with q | q
    · exact hw q
    · rcases List.mem_cons.1 q with q | q
      · exact absurd q (by decide)
      · exact line_no (itoa_word (h n (List.mem_cons_self ..))).2.2 (fun x hx => h x (List.mem_cons_of_mem _ hx)) q
theorem rowA_line : ∀ {w : ByteArray} {l : List Int}, ∃ t, (rowA w l).data.toList = w.data.toList ++ t ∧ ∀ u, lineT u l = u ++ t
  | w, [] => ⟨[], (List.append_nil _).symm, fun u => (List.append_nil _).symm⟩
  | w, n :: r => by
    obtain ⟨t, h1, h2⟩ := rowA_line (w := w ++ (bzl [32] ++ itoaB n)) (l := r)
    refine ⟨32 :: (Lib.itoa n ++ t), ?_, fun u => ?_⟩
    · rw [rowA, h1, ByteArray.data_append, ByteArray.data_append, Array.toList_append, Array.toList_append, show (itoaB n).data.toList = Lib.itoa n from bzl_list _, List.append_assoc, List.append_assoc]; rfl
    · rw [lineT, h2]
theorem rowV_line (w : ByteArray) (l : List Int) : (rowV w l).data.toList = lineT w.data.toList l ++ [10] := by
  obtain ⟨t, h1, h2⟩ := rowA_line (w := w) (l := l)
  rw [rowV, ByteArray.data_append, Array.toList_append, h1, h2]; rfl
theorem words_line {w : List UInt8} {l : List Int} (h0 : w ≠ []) (hw : (32 : UInt8) ∉ w) (h : ∀ n ∈ l, numIn n) : wordsP (bzl (lineT w l)) = bzl w :: l.map itoaB := by
  unfold wordsP
  rw [show splitV (bzl (lineT w l)) sp1 = _ from splitV_one 32 _, bzl_list, line_split hw h]
  have e : (w :: l.map Lib.itoa).map (fun l => (⟨l.toArray⟩ : ByteArray)) = bzl w :: l.map itoaB := by
    rw [List.map_cons, List.map_map]; rfl
  rw [e]
  refine List.filter_eq_self.2 fun x hx => decide_eq_true fun q => ?_
  have hne : ∀ {y : List UInt8}, y ≠ [] → bzl y ≠ .empty := fun {y} hy q => hy (by rw [← bzl_list y, q]; rfl)
  rcases List.mem_cons.1 hx with hx | hx
  · exact hne h0 (hx ▸ q)
  · obtain ⟨n, hn, rfl⟩ := List.mem_map.1 hx
    exact hne (itoa_word (h n hn)).1 q
def frameL : List UInt8 := [102, 114, 97, 109, 101]
def wantL : List UInt8 := [119, 97, 110, 116]
def jobL : List UInt8 := [106, 111, 98]
def frameT (p : Plan) : List UInt8 := lineT frameL [p.frame]
def wantT (w : Want) : List UInt8 := lineT wantL [w.owner, w.frm, w.long, w.every]
def jobT (j : PlanJob) : List UInt8 := lineT jobL [j.owner, j.task.long, j.task.every, j.task.due]
theorem in_4 {a b c d : Int} (h : numIn a ∧ numIn b ∧ numIn c ∧ numIn d) : ∀ n ∈ [a, b, c, d], numIn n := by
  intro n hn
  simp at hn
  rcases hn with rfl | rfl | rfl | rfl
  · exact h.1
  · exact h.2.1
  · exact h.2.2.1
  · exact h.2.2.2
theorem want_n {w : Want} (h : wantF w = true) : ∀ n ∈ [w.owner, w.frm, w.long, w.every], numIn n := in_4 (by have := want_in h; unfold numIn; omega)
theorem job_n {j : PlanJob} (h : jobF j = true) : ∀ n ∈ [j.owner, j.task.long, j.task.every, j.task.due], numIn n := in_4 (by
  have := job_in h
  have := okT_iff.1 this.2
  unfold numIn; omega)
theorem flat_data {α : Type} (f : α → ByteArray) (g : α → List UInt8) (h : ∀ x, (f x).data.toList = g x ++ [10]) : ∀ l : List α, (flatB f l).data.toList = l.flatMap fun x => g x ++ [10]
  | [] => rfl
  | x :: r => by
    rw [flatB, ByteArray.data_append, Array.toList_append, flat_data f g h r, h, List.flatMap_cons]
def linesT (p : Plan) : List (List UInt8) := frameT p :: (p.wants.map wantT ++ p.jobs.map jobT)
theorem text_data (p : Plan) : (textP p).data.toList = (linesT p).flatMap fun x => x ++ [10] := by
  unfold textP linesT
  rw [ByteArray.data_append, ByteArray.data_append, Array.toList_append, Array.toList_append, rowV_line, flat_data wantR wantT (fun w => rowV_line wantB0 _), flat_data jobR jobT (fun j => rowV_line jobB _)]
  rw [List.flatMap_cons, List.flatMap_append, List.flatMap_map, List.flatMap_map, List.append_assoc]; rfl
theorem split_lines : ∀ {L : List (List UInt8)}, (∀ x ∈ L, (10 : UInt8) ∉ x) → splitC 10 (L.flatMap fun x => x ++ [10]) = L ++ [[]]
  | [], _ => rfl
  | x :: r, h => by
    rw [List.flatMap_cons, List.append_assoc]
    show splitC 10 (x ++ 10 :: List.flatMap (fun x => x ++ [10]) r) = _
    rw [splitC_app (h x (List.mem_cons_self ..)), split_lines fun j hj => h j (List.mem_cons_of_mem _ hj)]; rfl
theorem lines_drop {s : ByteArray} {L : List ByteArray} (h : splitV s nl1 = L ++ [.empty]) : linesR s = L := by
  unfold linesR
  have e : (L ++ [ByteArray.empty]).length - 1 = L.length := by rw [List.length_append]; rfl
  rw [h, e, if_pos, List.take_left]
  rw [List.getD_eq_getElem?_getD, List.getElem?_append_right (Nat.le_refl _), Nat.sub_self]; rfl
theorem text_lines {p : Plan} (h : pchkV p = 0) : linesR (textP p) = (linesT p).map bzl := by
  obtain ⟨h1, -, h3, h4⟩ := pchk_iff.1 h
  refine lines_drop ?_
  show splitV (textP p) ⟨#[10]⟩ = _
  rw [splitV_one, text_data, split_lines]
  · rw [List.map_append]; rfl
  · intro x hx
    unfold linesT at hx
    rcases List.mem_cons.1 hx with hx | hx
    · rw [hx]; exact line_no (by decide) fun n hn => by rw [List.mem_singleton.1 hn]; unfold numIn; omega
    · rcases List.mem_append.1 hx with hx | hx
      · obtain ⟨w, hw, rfl⟩ := List.mem_map.1 hx
        exact line_no (by decide) (want_n (List.all_eq_true.1 h3 w hw))
      · obtain ⟨w, hw, rfl⟩ := List.mem_map.1 hx
        exact line_no (by decide) (job_n (List.all_eq_true.1 h4 w hw))
theorem rem_no {w : List UInt8} {r : List ByteArray} (h : byteAt (bzl w) 0 ≠ 35) : ¬ remB (bzl w :: r) := fun q => by
  rcases q with q | q
  · cases q
  · exact h q
theorem read_one {L : List ByteArray} {n : Int} {l : ByteArray} {r r2 : RdS} {w : List UInt8} {t : List ByteArray} (hw : wordsP l = bzl w :: t) (hb : byteAt (bzl w) 0 ≠ 35) (e : lineS r (bzl w :: t) = some r2) : readS (l :: L) n r = readS L (n + 1) r2 := by
  rw [readS, hw, if_neg (rem_no hb), e]
theorem read_wants {rest : List ByteArray} : ∀ {ws : List Want} {n : Int} {r : RdS}, r.st = 1 → ws.all wantF = true → readS (ws.map (fun w => bzl (wantT w)) ++ rest) n r = readS rest (n + (ws.length : Int)) ⟨r.frame, r.wants ++ ws, r.jobs, 1⟩
  | [], n, r, h, _ => by
    rw [List.append_nil, ← h]; simp
  | w :: t, n, r, h, ha => by
    rw [List.all_cons, Bool.and_eq_true] at ha
    have hn := want_n ha.1
    have hw : wordsP (bzl (wantT w)) = bzl wantL :: [w.owner, w.frm, w.long, w.every].map itoaB := words_line (by decide) (by decide) hn
    have hs := nums_row hn
    have hd : (bzl wantL :: [w.owner, w.frm, w.long, w.every].map itoaB).drop 1 = [w.owner, w.frm, w.long, w.every].map itoaB := rfl
    have e : lineS r (bzl wantL :: [w.owner, w.frm, w.long, w.every].map itoaB) = some ⟨r.frame, r.wants ++ [w], r.jobs, 1⟩ := by
      rw [line_2 ⟨rfl, h⟩ (fun q => absurd (h.symm.trans q.2) (by decide)), hd]
      have hs : numsV ([w.owner, w.frm, w.long, w.every].map itoaB) 4 = _ := hs
      rw [if_pos (by rw [hs])]
      unfold nAt
      rw [hd, hs, h]; rfl
    rw [List.map_cons, List.cons_append, read_one hw (by decide) e, read_wants rfl ha.2, List.length_cons, List.append_assoc]
    congr 1
    omega
theorem read_jobs : ∀ {js : List PlanJob} {n : Int} {r : RdS}, 0 < r.st → js.all jobF = true → ∃ m st, 0 < st ∧ readS (js.map (fun j => bzl (jobT j))) n r = readS [] m ⟨r.frame, r.wants, r.jobs ++ js, st⟩
  | [], n, r, h, _ => ⟨n, r.st, h, by rw [List.append_nil]; rfl⟩
  | j :: t, n, r, h, ha => by
    rw [List.all_cons, Bool.and_eq_true] at ha
    have hn := job_n ha.1
    have hw : wordsP (bzl (jobT j)) = bzl jobL :: [j.owner, j.task.long, j.task.every, j.task.due].map itoaB := words_line (by decide) (by decide) hn
    have hs := nums_row hn
    have hd : (bzl jobL :: [j.owner, j.task.long, j.task.every, j.task.due].map itoaB).drop 1 = [j.owner, j.task.long, j.task.every, j.task.due].map itoaB := rfl
    have e : lineS r (bzl jobL :: [j.owner, j.task.long, j.task.every, j.task.due].map itoaB) = some ⟨r.frame, r.wants, r.jobs ++ [j], 2⟩ := by
      have h3 := line_3 (r := r) (w := bzl jobL :: [j.owner, j.task.long, j.task.every, j.task.due].map itoaB) ⟨rfl, h⟩ (fun q => by have := q.2; omega) (fun q => absurd (show bzl jobL = wantB0 from q.1) (by decide))
      rw [h3, hd]
      have hs : numsV ([j.owner, j.task.long, j.task.every, j.task.due].map itoaB) 4 = _ := hs
      rw [if_pos (by rw [hs])]
      unfold nAt
      rw [hd, hs]; rfl
    obtain ⟨m, st, h1, h2⟩ := read_jobs (n := n + 1) (r := ⟨r.frame, r.wants, r.jobs ++ [j], 2⟩) (show (0 : Int) < 2 by decide) ha.2
    refine ⟨m, st, h1, ?_⟩
    rw [List.map_cons, read_one hw (by decide) e, h2, List.append_assoc]; rfl
theorem text_size {p : Plan} (h : pchkV p = 0) : (textP p).size ≤ 65536 := by
  obtain ⟨h1, ⟨h2, h2'⟩, h3, h4⟩ := pchk_iff.1 h
  have z1 := rowV_size (w := frameB) (l := [p.frame]) fun n hn => by rw [List.mem_singleton.1 hn]; omega
  have z1 : (rowV frameB [p.frame]).size ≤ 28 := z1
  have key : ∀ {α : Type} (f : α → ByteArray) (l : List α), (∀ x ∈ l, (f x).size ≤ 100) → (flatB f l).size ≤ 100 * l.length := fun f l => by
    induction l with
    | nil => exact fun _ => Nat.le_refl _
    | cons x r ih =>
      intro h
      have a := ih fun y hy => h y (List.mem_cons_of_mem _ hy)
      have b := h x (List.mem_cons_self ..)
      rw [flatB, ByteArray.size_append, List.length_cons]; omega
  have z2 := key wantR p.wants fun w hw => by
    have : (wantR w).size ≤ 93 := rowV_size (w := wantB0) (want_row (List.all_eq_true.1 h3 w hw))
    omega
  have z3 := key jobR p.jobs fun w hw => by
    have : (jobR w).size ≤ 92 := rowV_size (w := jobB) (job_row (List.all_eq_true.1 h4 w hw))
    omega
  unfold textP
  rw [ByteArray.size_append, ByteArray.size_append]; omega
theorem read_text {p : Plan} (h : pchkV p = 0) : readV (textP p) = (p, 0, 0) := by
  obtain ⟨h1, -, h3, h4⟩ := pchk_iff.1 h
  have hf : ∀ n ∈ [p.frame], numIn n := fun n hn => by rw [List.mem_singleton.1 hn]; unfold numIn; omega
  unfold readV
  have hz := text_size h
  rw [if_neg (by omega), text_lines h]
  have hw : wordsP (bzl (frameT p)) = bzl frameL :: [p.frame].map itoaB := words_line (by decide) (by decide) hf
  have hs := nums_row hf
  have hd : (bzl frameL :: [p.frame].map itoaB).drop 1 = [p.frame].map itoaB := rfl
  have e : lineS ⟨0, [], [], 0⟩ (bzl frameL :: [p.frame].map itoaB) = some ⟨p.frame, [], [], 1⟩ := by
    rw [line_1 ⟨rfl, rfl⟩, hd]
    have hs : numsV ([p.frame].map itoaB) 1 = _ := hs
    rw [if_pos (by rw [hs])]
    unfold nAt
    rw [hd, hs]; rfl
  have e2 : (linesT p).map bzl = bzl (frameT p) :: (p.wants.map (fun w => bzl (wantT w)) ++ p.jobs.map (fun j => bzl (jobT j))) := by
    unfold linesT
    rw [List.map_cons, List.map_append, List.map_map, List.map_map]; rfl
  rw [e2, read_one hw (by decide) e, read_wants rfl h3]
  obtain ⟨m, st, g1, g2⟩ := read_jobs (n := 0 + 1 + (p.wants.length : Int)) (r := ⟨p.frame, [] ++ p.wants, [], 1⟩) (show (0 : Int) < 1 by decide) h4
  rw [g2, readS, if_neg (show ¬ st = 0 by omega)]
  have : (RdS.plan ⟨p.frame, [] ++ p.wants, [] ++ p.jobs, st⟩) = p := rfl
  rw [this, if_pos h]

end Go.Proofs.YtnjngpjkhddnfaaGreatDoor
