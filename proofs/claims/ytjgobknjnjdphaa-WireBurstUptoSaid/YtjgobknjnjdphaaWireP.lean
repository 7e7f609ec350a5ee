/- What is written is read, plain. -/
import Derived.Test.YtjgobknjnjdphaaWireL
set_option linter.all false
namespace Go.Proofs.Ytjgobknjnjdphaa
open Go Go.Abs

theorem byteAt_app1 (a c : ByteArray) (i : Nat) (h : i < a.size) : byteAt (a ++ c) (i : Nat) = byteAt a (i : Nat) := by
  have h1 : i < a.data.size := h
  simp only [byteAt, ByteArray.data_append, Int.toNat_natCast, Array.getD_eq_getD_getElem?, Array.getElem?_append, if_pos h1]
theorem byteAt_app2 (a c : ByteArray) (i : Nat) : byteAt (a ++ c) ((a.size + i : Nat) : Int) = byteAt c (i : Nat) := by
  simp only [byteAt, ByteArray.data_append, Int.toNat_natCast]
  have : a.size = a.data.size := rfl
  rw [this]
  simp only [Array.getD_eq_getD_getElem?, Array.getElem?_append]
  rw [if_neg (by omega), Nat.add_sub_cancel_left]
theorem byteAt_get (s : ByteArray) (i : Nat) (h : i < s.data.size) : byteAt s (i : Nat) = (s.data[i].toNat : Int) := by
  simp only [byteAt, Int.toNat_natCast, Array.getD_eq_getD_getElem?, Array.getElem?_eq_getElem h, Option.getD_some]
theorem byteAt_ext (s : ByteArray) (i j k : Nat) (h : i + k < j) (h2 : j ≤ s.size) : byteAt (s.extract i j) (k : Nat) = byteAt s ((i + k : Nat) : Int) := by
  have h3 : s.data.size = s.size := rfl
  simp only [byteAt, Int.toNat_natCast, ByteArray.data_extract, Array.getD_eq_getD_getElem?, Array.getElem?_extract]
  rw [if_pos (by omega)]
theorem ba_ext {a b : ByteArray} (h : a.size = b.size) (h2 : ∀ i : Nat, i < a.size → byteAt a (i : Nat) = byteAt b (i : Nat)) : a = b := by
  apply ByteArray.ext
  apply Array.ext
  · exact h
  · intro i h3 h4
    have h5 := h2 i h3
    rw [byteAt_get a i h3, byteAt_get b i h4] at h5
    exact UInt8.toNat_inj.1 (by omega)
theorem wrap_u8 {n : Int} (h0 : 0 ≤ n) (h1 : n < 256) : IntKind.u8.wrap n = n := by
  unfold IntKind.wrap
  simp [IntKind.signed, IntKind.bits]
  omega
theorem wrap_u8' (n : Int) : IntKind.u8.wrap n = n % 256 := by
  unfold IntKind.wrap
  simp [IntKind.signed, IntKind.bits]
theorem byteAt_b1 (x : Int) (h0 : 0 ≤ x) (h1 : x < 256) : byteAt (b1 x) ((0 : Nat) : Int) = x := by
  show ((UInt8.ofNat x.toNat).toNat : Int) = x
  rw [UInt8.toNat_ofNat']
  omega
theorem fdiv_pos (n k : Int) (hk : 0 ≤ k) : n.fdiv k = n / k := Int.fdiv_eq_ediv_of_nonneg n hk
theorem bS24 (n : Int) : bS n 24 = n / 16777216 % 256 := by
  unfold bS bShr; rw [wrap_u8', fdiv_pos _ _ (by decide)]; rfl
theorem bS16 (n : Int) : bS n 16 = n / 65536 % 256 := by
  unfold bS bShr; rw [wrap_u8', fdiv_pos _ _ (by decide)]; rfl
theorem bS8 (n : Int) : bS n 8 = n / 256 % 256 := by
  unfold bS bShr; rw [wrap_u8', fdiv_pos _ _ (by decide)]; rfl
theorem bS0 (n : Int) : bS n 0 = n % 256 := by
  unfold bS bShr; rw [wrap_u8', fdiv_pos _ _ (by decide)]
  show n / 1 % 256 = _
  rw [Int.ediv_one]
theorem bS_bd (n k : Int) : 0 ≤ bS n k ∧ bS n k < 256 := by
  unfold bS; rw [wrap_u8']; omega
theorem byte_get (l : List Int) (hl : ∀ x ∈ l, 0 ≤ x ∧ x < 256) (i : Nat) (hi : i < l.length) (r : ByteArray) (s : ByteArray) (hs : s = l.foldl (fun a x => a ++ b1 x) .empty) : byteAt (s ++ r) (i : Nat) = l[i] := by
  have key : ∀ (l : List Int) (a : ByteArray), l.foldl (fun a x => a ++ b1 x) a = a ++ ⟨(l.map fun x => UInt8.ofNat x.toNat).toArray⟩ := by
    intro l
    induction l with
    | nil => intro a; apply ByteArray.ext; simp
    | cons x l ih =>
      intro a
      rw [List.foldl_cons, ih]
      apply ByteArray.ext
      simp [b1]
  rw [key] at hs
  have h2 : s.data = (l.map fun x => UInt8.ofNat x.toNat).toArray := by rw [hs]; simp
  have h3 : s.size = l.length := by show s.data.size = _; rw [h2]; simp
  rw [byteAt_app1 _ _ _ (by omega)]
  rw [byteAt_get s i (by show i < s.size; omega)]
  simp only [h2, List.getElem_toArray, List.getElem_map]
  have := hl l[i] (List.getElem_mem _)
  rw [UInt8.toNat_ofNat']
  omega
def headL (m : Msg) : List Int := [bS (14 + m.data.size) 8, bS (14 + m.data.size) 0, bS m.kind 0, bS m.frm 0, bS m.epoch 24, bS m.epoch 16, bS m.epoch 8, bS m.epoch 0, bS m.num 24, bS m.num 16, bS m.num 8, bS m.num 0]
theorem headV_fold (m : Msg) : headV m = (headL m).foldl (fun a x => a ++ b1 x) .empty := by
  unfold headV headL
  simp only [List.foldl_cons, List.foldl_nil, ByteArray.empty_append]
theorem head_at (m : Msg) (r : ByteArray) (i : Nat) (hi : i < 12) : byteAt (headV m ++ r) (i : Nat) = (headL m)[i] := by
  refine byte_get (headL m) (fun x hx => ?_) i hi r _ (headV_fold m)
  unfold headL at hx
  simp only [List.mem_cons, List.not_mem_nil, or_false] at hx
  rcases hx with rfl | rfl | rfl | rfl | rfl | rfl | rfl | rfl | rfl | rfl | rfl | rfl <;> exact bS_bd _ _
theorem numR2 (s : ByteArray) : numR s 2 = byteAt s ((0 : Nat) : Int) * 256 + byteAt s ((1 : Nat) : Int) := by
  have h1 := (numR_bd s 1 (by decide)).2.2 0 rfl
  have h2 := (numR_bd s 2 (by decide)).2.2 1 rfl
  rw [h2, h1]
  show ((0 : Int) * 256 + _) * 256 + _ = _
  rw [Int.zero_mul, Int.zero_add]
theorem numR4 (s : ByteArray) : numR s 4 = ((byteAt s ((0 : Nat) : Int) * 256 + byteAt s ((1 : Nat) : Int)) * 256 + byteAt s ((2 : Nat) : Int)) * 256 + byteAt s ((3 : Nat) : Int) := by
  have h3 := (numR_bd s 3 (by decide)).2.2 2 rfl
  have h4 := (numR_bd s 4 (by decide)).2.2 3 rfl
  rw [h4, h3, numR2]
theorem long_head (m : Msg) (hc : checkM m = 0) (r : ByteArray) : numR (headV m ++ r) 2 = 14 + m.data.size := by
  have h := (check0 hc).2
  rw [numR2, head_at m r 0 (by decide), head_at m r 1 (by decide)]
  show bS _ 8 * 256 + bS _ 0 = _
  rw [bS8, bS0]
  omega
/-- A message that is written: its parts. -/
theorem write_eq {m : Msg} (hc : checkM m = 0) : (writeV m).1 = bodyV m ++ sealV (bodyV m) ∧ (writeV m).2 = 0 := by
  unfold writeV; rw [if_pos hc]; exact ⟨rfl, hc⟩
theorem write_size {m : Msg} (hc : checkM m = 0) : (writeV m).1.size = 16 + m.data.size := by
  rw [(write_eq hc).1, ByteArray.size_append, bodyV_size, sealV_size]; omega
theorem app_assoc (a b c : ByteArray) : a ++ b ++ c = a ++ (b ++ c) := by
  apply ByteArray.ext; simp [Array.append_assoc]
theorem write_head {m : Msg} (hc : checkM m = 0) (r : ByteArray) : (writeV m).1 ++ r = headV m ++ (m.data ++ sealV (bodyV m) ++ r) := by
  rw [(write_eq hc).1]; unfold bodyV; simp only [app_assoc]
theorem long_write {m : Msg} (hc : checkM m = 0) (r : ByteArray) : longV ((writeV m).1 ++ r) = (16 + (m.data.size : Int), true) := by
  have h1 := write_size hc
  unfold longV
  rw [if_neg (by rw [ByteArray.size_append]; omega), write_head hc, long_head m hc, ← write_head hc, ByteArray.size_append, h1]
  simp only [Prod.mk.injEq, decide_eq_true_eq]
  omega
theorem app_empty (a : ByteArray) : a ++ .empty = a := by apply ByteArray.ext; simp
theorem extract_app1 (a b : ByteArray) (n : Nat) (h : n = a.size) : (a ++ b).extract 0 n = a := by
  refine ba_ext ?_ fun i hi => ?_
  · rw [ByteArray.size_extract, ByteArray.size_append]; omega
  · rw [ByteArray.size_extract, ByteArray.size_append] at hi
    rw [byteAt_ext _ _ _ _ (by omega) (by rw [ByteArray.size_append]; omega), Nat.zero_add, byteAt_app1 _ _ _ (by omega)]
theorem extract_app2 (a b : ByteArray) (n k : Nat) (h : n = a.size) (hk : k = a.size + b.size) : (a ++ b).extract n k = b := by
  refine ba_ext ?_ fun i hi => ?_
  · rw [ByteArray.size_extract, ByteArray.size_append]; omega
  · rw [ByteArray.size_extract, ByteArray.size_append] at hi
    rw [byteAt_ext _ _ _ _ (by omega) (by rw [ByteArray.size_append]; omega), h, byteAt_app2]
theorem msg_eq {m : Msg} (hc : checkM m = 0) : msgV (writeV m).1 = m := by
  have hr := (check0 hc).1
  have hsz := write_size hc
  unfold MsgR at hr
  have hd := write_head hc .empty
  rw [app_empty] at hd
  have hat : ∀ i (hi : i < 12), byteAt (writeV m).1 (i : Nat) = (headL m)[i] := fun i hi => by rw [hd]; exact head_at m _ i hi
  have ex : ∀ i k, i + k < 12 → byteAt ((writeV m).1.extract i (writeV m).1.size) (k : Nat) = byteAt (writeV m).1 ((i + k : Nat) : Int) := fun i k h => byteAt_ext _ _ _ _ (by omega) (by omega)
  unfold msgV
  have e1 : byteAt (writeV m).1 2 = m.kind := by
    have := hat 2 (by decide)
    rw [show ((2 : Nat) : Int) = 2 from rfl] at this
    rw [this]; show bS m.kind 0 = _; rw [bS0]; omega
  have e2 : byteAt (writeV m).1 3 = m.frm := by
    have := hat 3 (by decide)
    rw [show ((3 : Nat) : Int) = 3 from rfl] at this
    rw [this]; show bS m.frm 0 = _; rw [bS0]; omega
  have e3 : numR ((writeV m).1.extract 4 (writeV m).1.size) 4 = m.epoch := by
    rw [numR4, ex 4 0 (by decide), ex 4 1 (by decide), ex 4 2 (by decide), ex 4 3 (by decide), hat 4 (by decide), hat 5 (by decide), hat 6 (by decide), hat 7 (by decide)]
    show ((bS m.epoch 24 * 256 + bS m.epoch 16) * 256 + bS m.epoch 8) * 256 + bS m.epoch 0 = _
    rw [bS24, bS16, bS8, bS0]; omega
  have e4 : numR ((writeV m).1.extract 8 (writeV m).1.size) 4 = m.num := by
    rw [numR4, ex 8 0 (by decide), ex 8 1 (by decide), ex 8 2 (by decide), ex 8 3 (by decide), hat 8 (by decide), hat 9 (by decide), hat 10 (by decide), hat 11 (by decide)]
    show ((bS m.num 24 * 256 + bS m.num 16) * 256 + bS m.num 8) * 256 + bS m.num 0 = _
    rw [bS24, bS16, bS8, bS0]; omega
  have e5 : (writeV m).1.extract 12 ((writeV m).1.size - 4) = m.data := by
    refine ba_ext ?_ fun i hi => ?_
    · rw [ByteArray.size_extract]; omega
    · rw [ByteArray.size_extract] at hi
      rw [byteAt_ext _ _ _ _ (by omega) (by omega), hd, app_empty, show (12 + i) = (headV m).size + i by rw [headV_size], byteAt_app2, byteAt_app1 _ _ _ (by omega)]
  rw [e1, e2, e3, e4, e5]
theorem read_write {m : Msg} (hc : checkM m = 0) : readV (writeV m).1 = (m, 0) := by
  have hl := long_write hc .empty
  rw [app_empty] at hl
  have hsz := write_size hc
  have hm := msg_eq hc
  have := read_e (s := (writeV m).1) (by rw [hl]) (by rw [hl, hsz]; show (16 + (m.data.size : Int)) = _; omega) (by rw [hl]; show (16 : Int) ≤ 16 + (m.data.size : Int); omega) (by
    have hb := bodyV_size m
    have hs := sealV_size (bodyV m)
    rw [hsz, (write_eq hc).1, extract_app1 _ _ _ (by omega), extract_app2 _ _ _ _ (by omega) (by omega)]) (by rw [hm]; exact hc)
  rw [hm] at this
  exact this
theorem read_more {m : Msg} (hc : checkM m = 0) {x : ByteArray} (hx : 0 < x.size) : readV ((writeV m).1 ++ x) = (msg0, 4) := by
  have hl := long_write hc x
  have hsz := write_size hc
  exact read_b (by rw [hl]) (.inl (by rw [hl, ByteArray.size_append, hsz]; show ¬ (16 + (m.data.size : Int)) = _; omega))
theorem numR_cut (s : ByteArray) (n : Nat) (h : n ≤ s.size) (h2 : 2 ≤ n) : numR (s.extract 0 n) 2 = numR s 2 := by
  rw [numR2, numR2, byteAt_ext _ _ _ _ (by omega) h, byteAt_ext _ _ _ _ (by omega) h]
theorem read_cut {m : Msg} (hc : checkM m = 0) {n : Nat} (hn : n < (writeV m).1.size) : readV ((writeV m).1.extract 0 n) = (msg0, 3) := by
  have hsz := write_size hc
  have hl := long_write hc .empty
  rw [app_empty] at hl
  have he : ((writeV m).1.extract 0 n).size = n := by rw [ByteArray.size_extract]; omega
  refine read_a ?_
  unfold longV
  by_cases h2 : n < 2
  · rw [if_pos (by omega)]
  · rw [if_neg (by omega), numR_cut _ _ (by omega) (by omega), he]
    unfold longV at hl
    rw [if_neg (by omega)] at hl
    have h3 := congrArg Prod.fst hl
    simp only at h3
    rw [h3]
    simp only [decide_eq_false_iff_not]
    omega
theorem read_ok {s : ByteArray} (h : (readV s).2 = 0) : (longV s).2 = true ∧ (longV s).1 = s.size ∧ 16 ≤ (longV s).1 ∧ s.extract (s.size - 4) s.size = sealV (s.extract 0 (s.size - 4)) ∧ checkM (msgV s) = 0 ∧ (readV s).1 = msgV s := by
  unfold readV at h ⊢
  split at h
  · cases h
  · split at h
    · cases h
    · split at h
      · cases h
      · split at h
        · rename_i h4; exact absurd h h4
        · rename_i h1 h2 h3 h4
          refine ⟨by simpa using h1, by omega, by omega, by simpa using h3, by simpa using h4, ?_⟩
          rw [if_neg h1, if_neg h2, if_neg h3, if_neg h4]
theorem read_no {s : ByteArray} (h : ¬ (readV s).2 = 0) : (readV s).1 = msg0 := by
  unfold readV at h ⊢
  repeat' split
  all_goals first
    | rfl
    | (exfalso; apply h; simp_all)
theorem write_read {s : ByteArray} (h : (readV s).2 = 0) : (writeV (readV s).1).1 = s ∧ (writeV (readV s).1).2 = 0 := by
  obtain ⟨h1, h2, h3, h4, h5, h6⟩ := read_ok h
  rw [h6]
  refine ⟨?_, (write_eq h5).2⟩
  have hs : 16 ≤ s.size := by omega
  have hn : 2 + numR s 2 = s.size := by
    unfold longV at h2
    rw [if_neg (by omega)] at h2
    exact h2
  have hd : (msgV s).data.size = s.size - 16 := by show (s.extract 12 (s.size - 4)).size = _; rw [ByteArray.size_extract]; omega
  have hL : ∀ i (hi : i < 12), (headL (msgV s))[i]'hi = byteAt s (i : Nat) := by
    have hb := fun i => byte_bd s i
    have n4 : numR (s.extract 4 s.size) 4 = ((byteAt s ((4 : Nat) : Int) * 256 + byteAt s ((5 : Nat) : Int)) * 256 + byteAt s ((6 : Nat) : Int)) * 256 + byteAt s ((7 : Nat) : Int) := by
      rw [numR4, byteAt_ext _ _ _ _ (by omega) (Nat.le_refl _), byteAt_ext _ _ _ _ (by omega) (Nat.le_refl _), byteAt_ext _ _ _ _ (by omega) (Nat.le_refl _), byteAt_ext _ _ _ _ (by omega) (Nat.le_refl _)]
    have n8 : numR (s.extract 8 s.size) 4 = ((byteAt s ((8 : Nat) : Int) * 256 + byteAt s ((9 : Nat) : Int)) * 256 + byteAt s ((10 : Nat) : Int)) * 256 + byteAt s ((11 : Nat) : Int) := by
      rw [numR4, byteAt_ext _ _ _ _ (by omega) (Nat.le_refl _), byteAt_ext _ _ _ _ (by omega) (Nat.le_refl _), byteAt_ext _ _ _ _ (by omega) (Nat.le_refl _), byteAt_ext _ _ _ _ (by omega) (Nat.le_refl _)]
    have nn := numR2 s
    have ee : (14 + ((msgV s).data.size : Int)) = numR s 2 := by omega
    intro i hi
    have hb0 := hb ((0 : Nat) : Int); have hb1 := hb ((1 : Nat) : Int); have hb2 := hb ((2 : Nat) : Int); have hb3 := hb ((3 : Nat) : Int)
    have hb4 := hb ((4 : Nat) : Int); have hb5 := hb ((5 : Nat) : Int); have hb6 := hb ((6 : Nat) : Int); have hb7 := hb ((7 : Nat) : Int)
    have hb8 := hb ((8 : Nat) : Int); have hb9 := hb ((9 : Nat) : Int); have hb10 := hb ((10 : Nat) : Int); have hb11 := hb ((11 : Nat) : Int)
    rcases i with _ | _ | _ | _ | _ | _ | _ | _ | _ | _ | _ | _ | i
    · show bS (14 + ((msgV s).data.size : Int)) 8 = byteAt s ((0 : Nat) : Int); rw [bS8, ee]; omega
    · show bS (14 + ((msgV s).data.size : Int)) 0 = byteAt s ((1 : Nat) : Int); rw [bS0, ee]; omega
    · show bS (byteAt s ((2 : Nat) : Int)) 0 = byteAt s ((2 : Nat) : Int); rw [bS0]; omega
    · show bS (byteAt s ((3 : Nat) : Int)) 0 = byteAt s ((3 : Nat) : Int); rw [bS0]; omega
    · show bS (numR (s.extract 4 s.size) 4) 24 = byteAt s ((4 : Nat) : Int); rw [bS24, n4]; omega
    · show bS (numR (s.extract 4 s.size) 4) 16 = byteAt s ((5 : Nat) : Int); rw [bS16, n4]; omega
    · show bS (numR (s.extract 4 s.size) 4) 8 = byteAt s ((6 : Nat) : Int); rw [bS8, n4]; omega
    · show bS (numR (s.extract 4 s.size) 4) 0 = byteAt s ((7 : Nat) : Int); rw [bS0, n4]; omega
    · show bS (numR (s.extract 8 s.size) 4) 24 = byteAt s ((8 : Nat) : Int); rw [bS24, n8]; omega
    · show bS (numR (s.extract 8 s.size) 4) 16 = byteAt s ((9 : Nat) : Int); rw [bS16, n8]; omega
    · show bS (numR (s.extract 8 s.size) 4) 8 = byteAt s ((10 : Nat) : Int); rw [bS8, n8]; omega
    · show bS (numR (s.extract 8 s.size) 4) 0 = byteAt s ((11 : Nat) : Int); rw [bS0, n8]; omega
    · omega
  have hbody : bodyV (msgV s) = s.extract 0 (s.size - 4) := by
    refine ba_ext ?_ fun i hi => ?_
    · rw [bodyV_size, ByteArray.size_extract]; omega
    · rw [bodyV_size] at hi
      rw [byteAt_ext _ _ _ _ (by omega) (by omega), Nat.zero_add]
      unfold bodyV
      by_cases h12 : i < 12
      · rw [head_at _ _ _ h12, hL i h12]
      · have := byteAt_app2 (headV (msgV s)) (msgV s).data (i - 12)
        rw [headV_size, show 12 + (i - 12) = i by omega] at this
        rw [this]
        show byteAt (s.extract 12 (s.size - 4)) _ = _
        rw [byteAt_ext _ _ _ _ (by omega) (by omega), show 12 + (i - 12) = i by omega]
  rw [(write_eq h5).1, hbody, ← h4]
  refine ba_ext ?_ fun i hi => ?_
  · rw [ByteArray.size_append, ByteArray.size_extract, ByteArray.size_extract]; omega
  · rw [ByteArray.size_append, ByteArray.size_extract, ByteArray.size_extract] at hi
    have he : (s.extract 0 (s.size - 4)).size = s.size - 4 := by rw [ByteArray.size_extract]; omega
    by_cases hlt : i < s.size - 4
    · rw [byteAt_app1 _ _ _ (by omega), byteAt_ext _ _ _ _ (by omega) (by omega), Nat.zero_add]
    · have := byteAt_app2 (s.extract 0 (s.size - 4)) (s.extract (s.size - 4) s.size) (i - (s.size - 4))
      rw [he, show s.size - 4 + (i - (s.size - 4)) = i by omega] at this
      rw [this, byteAt_ext _ _ _ _ (by omega) (Nat.le_refl _), show s.size - 4 + (i - (s.size - 4)) = i by omega]

end Go.Proofs.Ytjgobknjnjdphaa
