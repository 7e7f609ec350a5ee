/- Messages, one behind the other, plain. -/
import Derived.Test.YtjgobknjnjdphaaWireS
set_option linter.all false
namespace Go.Proofs.Ytjgobknjnjdphaa
open Go Go.Abs

def catW : List Msg → ByteArray
  | [] => .empty
  | m :: l => (writeV m).1 ++ catW l
theorem catW_app : ∀ (a b : List Msg), catW (a ++ b) = catW a ++ catW b
  | [], b => by show catW b = .empty ++ catW b; rw [ByteArray.empty_append]
  | m :: a, b => by show (writeV m).1 ++ catW (a ++ b) = (writeV m).1 ++ catW a ++ catW b; rw [catW_app a b, app_assoc]
theorem catW_snoc (a : List Msg) (m : Msg) : catW (a ++ [m]) = catW a ++ (writeV m).1 := by
  rw [catW_app]; show catW a ++ ((writeV m).1 ++ .empty) = _; rw [app_empty]
theorem catW_size : ∀ (l : List Msg), (∀ m ∈ l, checkM m = 0) → (catW l).size ≤ 3 * (l.map fun x => 1 + 1 + 1 + 1 + (x.data.size + 1) + 1).sum
  | [], _ => Nat.zero_le _
  | m :: l, h => by
    have h1 := catW_size l fun x hx => h x (List.mem_cons_of_mem _ hx)
    have h2 := write_size (h m (List.mem_cons_self ..))
    show ((writeV m).1 ++ catW l).size ≤ _
    rw [ByteArray.size_append, List.map_cons, List.sum_cons]
    omega
theorem ext_split {s a b : ByteArray} {p : Nat} (hp : p ≤ s.size) (h : s.extract p s.size = a ++ b) : s.extract p (p + a.size) = a ∧ s.extract (p + a.size) s.size = b ∧ p + a.size + b.size = s.size := by
  have hsz := congrArg ByteArray.size h
  rw [ByteArray.size_extract, ByteArray.size_append] at hsz
  have key : ∀ i : Nat, p + i < s.size → byteAt s ((p + i : Nat) : Int) = byteAt (a ++ b) (i : Nat) := fun i hi => by
    rw [← h, byteAt_ext _ _ _ _ hi (Nat.le_refl _)]
  refine ⟨ba_ext ?_ fun i hi => ?_, ba_ext ?_ fun i hi => ?_, by omega⟩
  · rw [ByteArray.size_extract]; omega
  · rw [ByteArray.size_extract] at hi
    rw [byteAt_ext _ _ _ _ (by omega) (by omega), key i (by omega), byteAt_app1 _ _ _ (by omega)]
  · rw [ByteArray.size_extract]; omega
  · rw [ByteArray.size_extract] at hi
    rw [byteAt_ext _ _ _ _ (by omega) (by omega), show p + a.size + i = p + (a.size + i) by omega, key _ (by omega), byteAt_app2]
theorem app_cut1 (a b : ByteArray) (c : Nat) (h : c ≤ a.size) : (a ++ b).extract 0 c = a.extract 0 c := by
  refine ba_ext ?_ fun i hi => ?_
  · rw [ByteArray.size_extract, ByteArray.size_extract, ByteArray.size_append]; omega
  · rw [ByteArray.size_extract, ByteArray.size_append] at hi
    rw [byteAt_ext _ _ _ _ (by omega) (by rw [ByteArray.size_append]; omega), byteAt_ext _ _ _ _ (by omega) (by omega), Nat.zero_add, byteAt_app1 _ _ _ (by omega)]
theorem app_cut2 (a b : ByteArray) (c : Nat) (h : a.size ≤ c) (h2 : c ≤ a.size + b.size) : (a ++ b).extract 0 c = a ++ b.extract 0 (c - a.size) := by
  refine ba_ext ?_ fun i hi => ?_
  · rw [ByteArray.size_extract, ByteArray.size_append, ByteArray.size_append, ByteArray.size_extract]; omega
  · rw [ByteArray.size_extract, ByteArray.size_append] at hi
    rw [byteAt_ext _ _ _ _ (by omega) (by rw [ByteArray.size_append]; omega), Nat.zero_add]
    by_cases hlt : i < a.size
    · rw [byteAt_app1 _ _ _ hlt, byteAt_app1 _ _ _ hlt]
    · have h3 := byteAt_app2 a b (i - a.size)
      have h4 := byteAt_app2 a (b.extract 0 (c - a.size)) (i - a.size)
      rw [show a.size + (i - a.size) = i by omega] at h3 h4
      rw [h3, h4, byteAt_ext _ _ _ _ (by omega) (by omega), Nat.zero_add]
theorem ext_full (a : ByteArray) (n : Nat) (h : n = a.size) : a.extract 0 n = a := by
  refine ba_ext ?_ fun i hi => ?_
  · rw [ByteArray.size_extract]; omega
  · rw [ByteArray.size_extract] at hi
    rw [byteAt_ext _ _ _ _ (by omega) (by omega), Nat.zero_add]
theorem long_cut {m : Msg} (hc : checkM m = 0) {n : Nat} (hn : n < (writeV m).1.size) : (longV ((writeV m).1.extract 0 n)).2 = false := by
  have hsz := write_size hc
  have hl := long_write hc .empty
  rw [app_empty] at hl
  have he : ((writeV m).1.extract 0 n).size = n := by rw [ByteArray.size_extract]; omega
  unfold longV
  by_cases h2 : n < 2
  · rw [if_pos (by omega)]
  · rw [if_neg (by omega), numR_cut _ _ (by omega) (by omega), he]
    unfold longV at hl
    rw [if_neg (by omega)] at hl
    have h3 := congrArg Prod.fst hl
    simp only at h3
    rw [h3]
    simp only [decide_eq_false_iff_not]
    omega
theorem splitR_cat (s : ByteArray) : ∀ (l : List Msg) (f p c : Nat) (acc : List Msg), (∀ m ∈ l, checkM m = 0) → p ≤ s.size → c < f → c ≤ (catW l).size → s.extract p s.size = (catW l).extract 0 c →
    ∃ k, k ≤ l.length ∧ (catW (l.take k)).size ≤ c ∧ (c = (catW l).size → k = l.length) ∧ splitR s f p acc = (acc ++ l.take k, (p : Int) + (catW (l.take k)).size, 0)
  | [], f, p, c, acc, _, hp, hf, hc, he => by
    obtain ⟨g, rfl⟩ : ∃ g, f = g + 1 := ⟨f - 1, by omega⟩
    refine ⟨0, Nat.le_refl _, Nat.zero_le _, fun _ => rfl, ?_⟩
    have h0 : (s.extract p s.size).size = 0 := by rw [he, ByteArray.size_extract]; show min c 0 - 0 = 0; omega
    have hl : longV (s.extract p s.size) = (0, false) := by unfold longV; rw [if_pos (by omega)]
    rw [splitR, hl, if_pos rfl]
    simp [catW, show ByteArray.empty.size = 0 from rfl]
  | m :: l, f, p, c, acc, ha, hp, hf, hc, he => by
    obtain ⟨g, rfl⟩ : ∃ g, f = g + 1 := ⟨f - 1, by omega⟩
    have hm := ha m (List.mem_cons_self ..)
    have hw := write_size hm
    have hcs : (catW (m :: l)).size = (writeV m).1.size + (catW l).size := ByteArray.size_append
    by_cases hlt : c < (writeV m).1.size
    · refine ⟨0, Nat.zero_le _, Nat.zero_le _, fun h => by omega, ?_⟩
      have e : s.extract p s.size = (writeV m).1.extract 0 c := by rw [he]; exact app_cut1 _ _ _ (by omega)
      rw [splitR, e, if_pos (long_cut hm hlt)]
      simp [catW, show ByteArray.empty.size = 0 from rfl]
    · have e : s.extract p s.size = (writeV m).1 ++ (catW l).extract 0 (c - (writeV m).1.size) := by rw [he]; exact app_cut2 _ _ _ (by omega) (by omega)
      obtain ⟨e1, e2, e3⟩ := ext_split hp e
      have hl : longV (s.extract p s.size) = (16 + (m.data.size : Int), true) := by rw [e]; exact long_write hm _
      have hn : (16 + (m.data.size : Int)).toNat = (writeV m).1.size := by omega
      rw [splitR, hl, if_neg (by simp)]
      simp only [hn]
      rw [e1, read_write hm, if_neg (by simp)]
      obtain ⟨k, k1, k2, k3, k4⟩ := splitR_cat s l g (p + (writeV m).1.size) (c - (writeV m).1.size) (acc ++ [m]) (fun x hx => ha x (List.mem_cons_of_mem _ hx)) (by omega) (by omega) (by omega) e2
      have ht : (catW ((m :: l).take (k + 1))).size = (writeV m).1.size + (catW (l.take k)).size := ByteArray.size_append
      refine ⟨k + 1, by simp; omega, by omega, fun h => by have := k3 (by omega); simp; omega, ?_⟩
      rw [k4, ht]
      simp only [List.append_assoc, List.take_succ_cons, List.singleton_append, Prod.mk.injEq, true_and, and_true]
      omega
theorem splitV_cat {s : ByteArray} {l : List Msg} {c : Nat} (ha : ∀ m ∈ l, checkM m = 0) (hc : c ≤ (catW l).size) (he : s = (catW l).extract 0 c) (hs : s.size ≤ 100000) :
    ∃ k, k ≤ l.length ∧ (catW (l.take k)).size ≤ c ∧ (c = (catW l).size → k = l.length) ∧ splitV s = (l.take k, ((catW (l.take k)).size : Int), 0) := by
  have hsz : s.size = c := by rw [he, ByteArray.size_extract]; omega
  obtain ⟨k, k1, k2, k3, k4⟩ := splitR_cat s l (s.size + 1) 0 c [] ha (Nat.zero_le _) (by omega) hc (by rw [ext_full _ _ rfl, he])
  refine ⟨k, k1, k2, k3, ?_⟩
  unfold splitV
  rw [if_neg (by omega), k4]
  simp
theorem split_law {l : List Msg} (ha : ∀ m ∈ l, checkM m = 0) (hs : (catW l).size ≤ 100000) {c : Nat} (hc : c ≤ (catW l).size) :
    ∃ k, k ≤ l.length ∧ (catW (l.take k)).size ≤ c ∧ splitV ((catW l).extract 0 c) = (l.take k, ((catW (l.take k)).size : Int), 0) ∧
      splitV ((catW l).extract (catW (l.take k)).size (catW l).size) = (l.drop k, ((catW (l.drop k)).size : Int), 0) ∧ (catW (l.take k)).size + (catW (l.drop k)).size = (catW l).size := by
  obtain ⟨k, k1, k2, -, k4⟩ := splitV_cat (s := (catW l).extract 0 c) ha hc rfl (by rw [ByteArray.size_extract]; omega)
  have hcat : catW l = catW (l.take k) ++ catW (l.drop k) := by rw [← catW_app, List.take_append_drop]
  have hsz : (catW (l.take k)).size + (catW (l.drop k)).size = (catW l).size := by rw [hcat, ByteArray.size_append]
  have e2 : (catW l).extract (catW (l.take k)).size (catW l).size = catW (l.drop k) := by
    rw [← hsz]
    conv => lhs; arg 1; rw [hcat]
    exact extract_app2 _ _ _ _ rfl rfl
  obtain ⟨j, j1, j2, j3, j4⟩ := splitV_cat (s := catW (l.drop k)) (l := l.drop k) (c := (catW (l.drop k)).size) (fun m hm => ha m (List.mem_of_mem_drop hm)) (Nat.le_refl _) (ext_full _ _ rfl).symm (by omega)
  rw [j3 rfl, List.take_of_length_le (Nat.le_refl _)] at j4
  exact ⟨k, k1, k2, k4, by rw [e2]; exact j4, hsz⟩

end Go.Proofs.Ytjgobknjnjdphaa
