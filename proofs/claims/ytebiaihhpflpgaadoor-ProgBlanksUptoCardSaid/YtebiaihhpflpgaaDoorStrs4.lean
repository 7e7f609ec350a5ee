/- slices.Insert of texts: a contract. -/
import Derived.Test.YtebiaihhpflpgaaDoorStrs3
import Derived.Test.YtebiaihhpflpgaaDoorAbsG4
import Derived.Shelf.Spec.SlicesInsertGrow
import Derived.Laws.IdiomCopy
import Derived.Laws.AppendOwn
import Derived.Ground.Names2Prog
set_option linter.all false
namespace Go.Proofs.YtebiaihhpflpgaaDoor
open Go Go.Abs

open Go.RowKit
structure InsW (w w' : World) (g' c' : Nat) (r : List ByteArray) : Prop where
  os : w'.os = w.os
  tape : w'.tape = w.tape
  output : w'.output = w.output
  size : w.heap.size ≤ w'.heap.size
  block : ∀ k, k < w.heap.size → k ≠ g' → w'.heap[k]? = w.heap[k]?
  at_ : ∃ cur : Array Value, w'.heap[g']? = some (.cells cur 9 (0, 0)) ∧ cur.size = c' ∧ ∀ i, i < r.length → cur.getD i undef = .string (r.getD i Dat.d0)
  le : r.length ≤ c'
  max : c' ≤ maxLen
theorem strs_obj {w w' : World} {M M' : Nat → Prop} {β β' : Nat → Option Nat} {cp cp' : Nat → Nat} {b : Nat} {m : List ByteArray} (h : ObjRel w M β cp b (vecO 9 fun _ => m)) (hβ : β' b = β b) (hc : cp' b = cp b) (hM : ∀ k, M k → M' k) (hk : ∀ g, β b = some g → w'.heap[g]? = w.heap[g]?) : ObjRel w' M' β' cp' b (vecO 9 fun _ => m) := by
  rcases h with ⟨q1, q2⟩ | ⟨g, cur, q1, q2, q3, q4, q5, q6, q7, q8, q9⟩
  · exact .inl ⟨by rw [hβ]; exact q1, q2⟩
  · refine .inr ⟨g, cur, by rw [hβ]; exact q1, hM _ q2, by rw [hk g q1]; exact q3, by rw [hc]; exact q4, by rw [hc]; exact q5, by rw [hc]; exact q6, by rw [hc]; exact q7, q8, fun i j x hi hx => ?_⟩
    have := q9 i j x hi hx
    match j, hx with
    | 0, hx =>
      cases hx
      generalize cur.getD (i * Dat.sz ByteArray + 0) undef = v at this ⊢
      cases this
      exact .s _
theorem ins_end {w w' : World} {M : Nat → Prop} {β : Nat → Option Nat} {cp : Nat → Nat} {l m r : List ByteArray} {g0 g' c' : Nat} (hh : HeapRel w M β cp [vecO 9 fun _ => l, vecO 9 fun _ => m]) (hb0 : β 0 = some g0) (hM0 : M g0)
    (h1 : ∀ g1, β 1 = some g1 → g1 ≠ g') (hg : g' = g0 ∨ w.heap.size ≤ g') (k : InsW w w' g' c' r) (hr : 0 < r.length) :
    ∃ v x H' kl M' β' cp', Ending.returned (.slice (some ⟨g', 0, none⟩) r.length c') = .returned v ∧ (x = AV.own 0 (fun _ => r.length) ∧ H' = [vecO 9 fun _ => r, vecO 9 fun _ => m] ∧ kl = [0]) ∧ HeapRel w' M' β' cp' H' ∧ AK w M β cp [vecO 9 fun _ => l, vecO 9 fun _ => m] w' M' β' cp' H' kl ∧ Rep w' M' β' cp' x v := by
  obtain ⟨cur, k1, k2, k3⟩ := k.at_
  have hlt : g' < w'.heap.size := (Array.getElem?_eq_some_iff.1 k1).1
  have B0 : Blks w β [vecO 9 fun _ => l, vecO 9 fun _ => m] g0 := ⟨0, _, g0, rfl, rfl, hb0, .self _⟩
  have hkeep : ∀ q, q < w.heap.size → ¬ M q → w'.heap[q]? = w.heap[q]? ∧ ¬ (M q ∨ q = g') := fun q hq hM => by
    have hne : q ≠ g' := fun e => by
      rcases hg with e2 | e2
      · exact hM (by rw [e, e2]; exact hM0)
      · omega
    exact ⟨k.block q hq hne, fun z => z.elim hM hne⟩
  have O1 := hh.obj 1 _ rfl
  refine ⟨_, .own 0 fun _ => r.length, [vecO 9 fun _ => r, vecO 9 fun _ => m], [0], fun q => M q ∨ q = g', fun b => if b = 0 then some g' else β b, fun b => if b = 0 then c' else cp b, rfl, ⟨rfl, rfl, rfl⟩, ⟨fun b hb => ?_, fun b o hb => ?_, fun b b' o o' q q' kk hb hb' _ _ hq hq' hf hf' => ?_, hh.dom.go hkeep fun q hq => hq.elim (fun z => Nat.lt_of_lt_of_le (hh.dom.lt q z) k.size) fun z => z ▸ hlt⟩, ⟨hkeep, fun b hb h => ?_, ⟨k.os, k.tape, k.output, k.size, fun q hq hB => ?_, fun q _ _ h => .inl h, fun q h => h.elim .inl fun z => ?_⟩, fun q hq => ?_⟩, ?_⟩
  · have hb : 2 ≤ b := hb
    rw [if_neg (by omega)]
    exact hh.out b hb
  · match b, hb with
    | 0, hb =>
      cases hb
      refine .inr ⟨g', cur, rfl, .inr rfl, k1, by rw [k2]; exact (Nat.mul_one _).symm, ⟨fun q hq => ?_, fun i j q1 q2 q3 q4 => by cases q4⟩, k.le, k.max, fun _ _ => rfl, fun i j x hi hx => ?_⟩
      · have hq : q < r.length * 1 := hq
        rw [k3 q (by omega)]; rfl
      · match j, hx with
        | 0, hx =>
          cases hx
          have hi : i < r.length := hi
          show RepC _ _ _ (cur.getD (i * 1 + 0) undef)
          rw [show i * 1 + 0 = i by omega, k3 i hi]
          exact .s _
    | 1, hb =>
      cases hb
      exact strs_obj O1 rfl rfl (fun q h => .inl h) fun g1 hg1 => k.block g1 (by
        rcases O1 with ⟨z, -⟩ | ⟨g, cu, z, -, z2, -⟩
        · rw [hg1] at z; cases z
        · rw [hg1] at z; cases z; exact (Array.getElem?_eq_some_iff.1 z2).1) (h1 g1 hg1)
  · have F : ∀ (c : Nat) (oc : AObj) (qc kc : Nat), [vecO 9 fun _ => r, vecO 9 fun _ => m][c]? = some oc → (if c = 0 then some g' else β c) = some qc → Foot w' qc oc kc → (c = 0 ∧ kc = g') ∨ (c = 1 ∧ β 1 = some kc) := fun c oc qc kc h1 h2 h3 => by
      match c, h1 with
      | 0, h1 =>
        cases h1
        have h2 : some g' = some qc := h2
        cases h2
        exact .inl ⟨rfl, h3.eq nofun⟩
      | 1, h1 =>
        cases h1
        have h2 : β 1 = some qc := h2
        have := h3.eq nofun
        subst this
        exact .inr ⟨rfl, h2⟩
    rcases F _ _ _ _ hb hq hf with ⟨a1, a2⟩ | ⟨a1, a2⟩ <;> rcases F _ _ _ _ hb' hq' hf' with ⟨b1, b2⟩ | ⟨b1, b2⟩
    · omega
    · exact absurd a2 (h1 kk b2)
    · exact absurd b2 (h1 kk a2)
    · omega
  · have hb : b ≠ 0 := fun e => by subst e; cases hb
    exact ⟨if_neg hb, if_neg hb⟩
  · refine k.block q hq fun e => ?_
    rcases hg with e2 | e2
    · exact hB (by rw [e, e2]; exact B0)
    · omega
  · rcases hg with e2 | e2
    · exact .inl (by rw [z, e2]; exact hM0)
    · exact .inr (by omega)
  · obtain ⟨b, o, q0, h1', h2, h3, h4⟩ := hq
    match b, h1' with
    | 0, h1' =>
      cases h1'
      have h3 : some g' = some q0 := h3
      cases h3
      have := h4.eq nofun
      subst this
      rcases hg with e2 | e2
      · exact .inl (by rw [e2]; exact B0)
      · exact .inr e2
    | 1, h1' =>
      cases h1'
      have h3 : β 1 = some q0 := h3
      have := h4.eq nofun
      subst this
      exact .inl ⟨1, _, _, rfl, rfl, h3, .self _⟩
  · exact .own 0 _ g' rfl k.le
theorem cells_set (b : Nat) : ∀ (vs : List Value) (o : Nat) (w : World) (cur : Array Value) (T : TypeId), w.heap[b]? = some (.cells cur T (0, 0)) → o + vs.length ≤ cur.size →
    ∃ cur' : Array Value, (w.setCells b o vs).heap[b]? = some (.cells cur' T (0, 0)) ∧ cur'.size = cur.size ∧ ∀ j, cur'.getD j undef = if o ≤ j ∧ j < o + vs.length then vs.getD (j - o) undef else cur.getD j undef
  | [], o, w, cur, T, h, _ => ⟨cur, h, rfl, fun j => by rw [if_neg (by rw [List.length_nil]; omega)]⟩
  | v :: r, o, w, cur, T, h, hs => by
    rw [List.length_cons] at hs
    have h1 : (w.setCell ⟨b, o, none⟩ v).heap[b]? = some (.cells (cur.setIfInBounds o v) T (0, 0)) := by
      simp [World.setCell, Array.getElem?_modify, h]
    obtain ⟨cur', e1, e2, e3⟩ := cells_set b r (o + 1) _ _ T h1 (by rw [Array.size_setIfInBounds]; omega)
    refine ⟨cur', e1, by rw [e2, Array.size_setIfInBounds], fun j => ?_⟩
    rw [e3 j, List.length_cons]
    by_cases q : o + 1 ≤ j ∧ j < o + 1 + r.length
    · rw [if_pos q, if_pos (by omega), show j - o = (j - (o + 1)) + 1 by omega, List.getD_cons_succ]
    · rw [if_neg q]
      by_cases q2 : j = o
      · subst q2
        rw [if_pos (by omega), Nat.sub_self]
        have : j < cur.size := by omega
        simp [Array.getD, this]
      · rw [if_neg (by omega)]
        by_cases q3 : j < cur.size
        · simp [Array.getD, q3, Array.getElem_setIfInBounds, Ne.symm q2]
        · simp [Array.getD, q3]
theorem cells_keep (b : Nat) : ∀ (vs : List Value) (o : Nat) (w : World), (w.setCells b o vs).os = w.os ∧ (w.setCells b o vs).tape = w.tape ∧ (w.setCells b o vs).output = w.output ∧ (w.setCells b o vs).heap.size = w.heap.size ∧ ∀ k, k ≠ b → (w.setCells b o vs).heap[k]? = w.heap[k]?
  | [], _, _ => ⟨rfl, rfl, rfl, rfl, fun _ _ => rfl⟩
  | v :: r, o, w => by
    obtain ⟨h1, h2, h3, h4, h5⟩ := cells_keep b r (o + 1) (w.setCell ⟨b, o, none⟩ v)
    refine ⟨h1, h2, h3, by rw [World.setCells, h4]; simp [World.setCell], fun k hk => ?_⟩
    rw [World.setCells, h5 k hk]
    simp [World.setCell, Array.getElem?_modify, hk]
    intro e
    exact absurd e.symm hk
def insR (l m : List ByteArray) (i : Nat) : List ByteArray := l.take i ++ m ++ l.drop i
theorem insR_len {l m : List ByteArray} {i : Nat} (hi : i ≤ l.length) : (insR l m i).length = l.length + m.length := by
  unfold insR
  rw [List.length_append, List.length_append, List.length_take, List.length_drop]; omega
theorem insR_get {l m : List ByteArray} {i j : Nat} (hi : i ≤ l.length) (hj : j < l.length + m.length) : (insR l m i).getD j Dat.d0 = if j < i then l.getD j Dat.d0 else if j < i + m.length then m.getD (j - i) Dat.d0 else l.getD (j - m.length) Dat.d0 := by
  unfold insR
  simp only [List.getD_eq_getElem?_getD]
  by_cases h1 : j < i
  · rw [if_pos h1, List.append_assoc, List.getElem?_append_left (by rw [List.length_take]; omega), List.getElem?_take, if_pos h1]
  · rw [if_neg h1]
    have ht : (l.take i).length = i := by rw [List.length_take]; omega
    by_cases h2 : j < i + m.length
    · rw [if_pos h2, List.getElem?_append_left (by rw [List.length_append, ht]; exact h2), List.getElem?_append_right (by rw [ht]; omega), ht]
    · rw [if_neg h2, List.getElem?_append_right (by rw [List.length_append, ht]; omega), List.length_append, ht, List.getElem?_drop]
      congr 2; omega
section
open Go.Shelf
def Tryd.insL_ren : Go.Shelf.Ren := ⟨fun | 22 => 13 | 29 => 30 | 30 => 31 | 36 => 47 | 17 => 65 | n => n, fun | 24 => 33 | 9 => 9 | 3 => 3 | 4 => 4 | 0 => 0 | n => n, fun | n => n⟩
theorem Tryd.insL : Go.Proofs.Lays2.n22 Tryd.prog Tryd.insL_ren := {
  mixed := by kernel_rfl
  f17 := Tryd.func65.trans (congrArg some (by kernel_rfl))
  f22 := Tryd.func13.trans (congrArg some (by kernel_rfl))
  f29 := Tryd.func30.trans (congrArg some (by kernel_rfl))
  f30 := Tryd.func31.trans (congrArg some (by kernel_rfl))
  f36 := Tryd.func47.trans (congrArg some (by kernel_rfl))
  t0 := Tryd.underlying0
  a0 := Tryd.isAgg0
  z0 := Tryd.sizeOf0
  v0 := Tryd.zeroValue0
  t3 := Tryd.underlying3
  a3 := Tryd.isAgg3
  z3 := Tryd.sizeOf3
  v3 := Tryd.zeroValue3
  t4 := Tryd.underlying4
  a4 := Tryd.isAgg4
  z4 := Tryd.sizeOf4
  v4 := Tryd.zeroValue4
  t9 := Tryd.underlying9
  a9 := Tryd.isAgg9
  z9 := Tryd.sizeOf9
  v9 := Tryd.zeroValue9
  t24 := Tryd.underlying33
  a24 := Tryd.isAgg33
  z24 := Tryd.sizeOf33
  v24 := Tryd.zeroValue33
  i9 := by kernel_rfl }
end
theorem cell_at {w : World} {g : Nat} {cur : Array Value} {T : TypeId} (h : w.heap[g]? = some (.cells cur T (0, 0))) {j : Nat} (hj : j < cur.size) : w.cell? ⟨g, j, none⟩ = some (cur.getD j undef) := by
  unfold World.cell?
  rw [h]
  simp [Array.getD, hj]
theorem froz_at {w : World} {g : Nat} {cur : Array Value} {T : TypeId} (h : w.heap[g]? = some (.cells cur T (0, 0))) (o : Nat) : w.frozen? ⟨g, o, none⟩ = false := by
  unfold World.frozen?
  rw [h]
  simp
theorem shape_at {w : World} {g : Nat} {cur : Array Value} {T : TypeId} (h : w.heap[g]? = some (.cells cur T (0, 0))) : w.shape? g = some (T, cur.size) := by
  unfold World.shape?
  rw [h]
def sVs (l : List ByteArray) : List Value := l.map Value.string
theorem sVs_len (l : List ByteArray) : (sVs l).length = l.length := List.length_map ..
theorem sVs_get {l : List ByteArray} {j : Nat} (h : j < l.length) : (sVs l).getD j undef = .string (l.getD j Dat.d0) := by
  unfold sVs
  simp [List.getD_eq_getElem?_getD, h]
theorem sVs_at {l : List ByteArray} {j : Nat} {v : Value} (h : (sVs l)[j]? = some v) : j < l.length ∧ v = .string (l.getD j Dat.d0) := by
  unfold sVs at h
  rw [List.getElem?_map, Option.map_eq_some_iff] at h
  obtain ⟨x, h1, rfl⟩ := h
  have hj := (List.getElem?_eq_some_iff.1 h1).1
  exact ⟨hj, by rw [List.getD_eq_getElem?_getD, h1]; rfl⟩
theorem sVs_one (l : List ByteArray) : ∀ v ∈ sVs l, v.oneCell' = true := fun v hv => by
  obtain ⟨x, -, rfl⟩ := List.mem_map.1 hv
  rfl
structure RowS (w : World) (g c : Nat) (l : List ByteArray) : Prop where
  h : ∃ cur : Array Value, w.heap[g]? = some (.cells cur 9 (0, 0)) ∧ cur.size = c ∧ ∀ j, j < l.length → cur.getD j undef = .string (l.getD j Dat.d0)
  le : l.length ≤ c
theorem RowS.at {w : World} {g c : Nat} {l : List ByteArray} (r : RowS w g c l) : ∀ j v, (sVs l)[j]? = some v → w.cell? ⟨g, 0 + j, none⟩ = some v := fun j v h => by
  obtain ⟨cur, h1, h2, h3⟩ := r.h
  obtain ⟨hj, rfl⟩ := sVs_at h
  have := r.le
  rw [Nat.zero_add, cell_at h1 (by omega), h3 j hj]
theorem ins_shift {w : World} {g0 g1 c mc i : Nat} {l m : List ByteArray} (r0 : RowS w g0 c l) (r1 : RowS w g1 mc m) (hne : g1 ≠ g0) (hm : 0 < m.length) (hi : i < l.length) (hc : c ≤ maxLen) (hroom : l.length + m.length ≤ c) :
    Calls Tryd.prog 13 #[.slice (some ⟨g0, 0, none⟩) l.length c, .int .i64 i, .slice (some ⟨g1, 0, none⟩) m.length mc] w fun e w' =>
      ∃ g' c', e = .returned (.slice (some ⟨g', 0, none⟩) (insR l m i).length c') ∧ (g' = g0 ∨ g' = w.heap.size) ∧ InsW w w' g' c' (insR l m i) := by
  obtain ⟨cur, h1, h2, h3⟩ := r0.h
  obtain ⟨cu1, k1, k2, k3⟩ := r1.h
  have hc2 : c ≤ 9223372036854775807 := Nat.le_trans hc (by unfold maxLen; decide)
  refine (Any2.slices_Insert_string_shift Tryd.insL g0 0 l.length c i g1 0 m.length mc (sVs l) (sVs m) w hi hm hroom hc2 hne (sVs_len l) (sVs_len m) r0.at (fun j hj => by rw [Nat.zero_add, cell_at h1 (by omega)]; rfl) (fun j _ => froz_at h1 _) r1.at (sVs_one l) (sVs_one m) _ _ _ _ (shape_at k1) (shape_at h1) (by omega) (froz_at k1 _) (froz_at k1 _)).mono ?_
  rintro e w' ⟨rfl, rfl⟩
  have hd : (sVs l).drop i = sVs (l.drop i) := (List.map_drop ..).symm
  have hdl : (sVs (l.drop i)).length = l.length - i := by rw [sVs_len, List.length_drop]
  obtain ⟨c1, a1, a2, a3⟩ := cells_set g0 (sVs (l.drop i)) (0 + (i + m.length)) w.drew cur 9 h1 (by rw [hdl]; omega)
  obtain ⟨c2, b1, b2, b3⟩ := cells_set g0 (sVs m) (0 + i) _ c1 9 a1 (by rw [sVs_len]; omega)
  obtain ⟨e1, e2, e3, e4, e5⟩ := cells_keep g0 (sVs (l.drop i)) (0 + (i + m.length)) w.drew
  obtain ⟨f1, f2, f3, f4, f5⟩ := cells_keep g0 (sVs m) (0 + i) (w.drew.setCells g0 (0 + (i + m.length)) (sVs (l.drop i)))
  refine ⟨g0, c, by rw [insR_len (by omega)], .inl rfl, ?_⟩
  rw [hd]
  refine ⟨f1.trans e1, f2.trans e2, f3.trans e3, by rw [f4, e4]; exact Nat.le_refl _, fun k _ hk => (f5 k hk).trans (e5 k hk), ⟨c2, b1, by rw [b2, a2, h2], fun j hj => ?_⟩, by rw [insR_len (by omega)]; exact hroom, hc⟩
  rw [insR_len (by omega)] at hj
  rw [insR_get (by omega) hj, b3, sVs_len, a3, hdl]
  by_cases q1 : j < i
  · rw [if_neg (by omega), if_neg (by omega), if_pos q1]; exact h3 j (by omega)
  · rw [if_neg q1]
    by_cases q2 : j < i + m.length
    · rw [if_pos (by omega), if_pos q2, Nat.zero_add]; exact sVs_get (by omega)
    · rw [if_neg (by omega), if_pos (by omega), if_neg q2, sVs_get (by rw [List.length_drop]; omega), List.getD_eq_getElem?_getD, List.getElem?_drop, ← List.getD_eq_getElem?_getD]
      congr 2; omega
theorem ins_room {w : World} {g0 g1 c mc : Nat} {l m : List ByteArray} (r0 : RowS w g0 c l) (r1 : RowS w g1 mc m) (hm : 0 < m.length) (hc : c ≤ maxLen) (hroom : l.length + m.length ≤ c) :
    Calls Tryd.prog 13 #[.slice (some ⟨g0, 0, none⟩) l.length c, .int .i64 l.length, .slice (some ⟨g1, 0, none⟩) m.length mc] w fun e w' =>
      ∃ g' c', e = .returned (.slice (some ⟨g', 0, none⟩) (insR l m l.length).length c') ∧ (g' = g0 ∨ g' = w.heap.size) ∧ InsW w w' g' c' (insR l m l.length) := by
  obtain ⟨cur, h1, h2, h3⟩ := r0.h
  have hc2 : c ≤ 9223372036854775807 := Nat.le_trans hc (by unfold maxLen; decide)
  refine (Any2.slices_Insert_string_end_room Tryd.insL g0 0 l.length c g1 0 m.length mc (sVs m) w hm hroom hc2 (sVs_len m) (fun j hj => by rw [Nat.zero_add, cell_at h1 (by omega)]; rfl) (fun j _ => froz_at h1 _) r1.at (sVs_one m)).mono ?_
  rintro e w' ⟨rfl, rfl⟩
  obtain ⟨c2, b1, b2, b3⟩ := cells_set g0 (sVs m) (0 + l.length) w cur 9 h1 (by rw [sVs_len]; omega)
  obtain ⟨f1, f2, f3, f4, f5⟩ := cells_keep g0 (sVs m) (0 + l.length) w
  refine ⟨g0, c, by rw [insR_len (Nat.le_refl _)], .inl rfl, ?_⟩
  refine ⟨f1, f2, f3, by rw [f4]; exact Nat.le_refl _, fun k _ hk => f5 k hk, ⟨c2, b1, by rw [b2, h2], fun j hj => ?_⟩, by rw [insR_len (Nat.le_refl _)]; exact hroom, hc⟩
  rw [insR_len (Nat.le_refl _)] at hj
  rw [insR_get (Nat.le_refl _) hj, b3, sVs_len]
  by_cases q1 : j < l.length
  · rw [if_neg (by omega), if_pos q1]; exact h3 j q1
  · rw [if_neg q1, if_pos (by omega), if_pos (by omega), Nat.zero_add]; exact sVs_get (by omega)
theorem heap_alloc {w : World} {o : Obj} : (w.alloc o).heap[w.heap.size]? = some o ∧ ∀ k, k < w.heap.size → (w.alloc o).heap[k]? = w.heap[k]? := by
  refine ⟨?_, fun k hk => ?_⟩
  · show (w.heap.push o)[w.heap.size]? = _
    rw [Array.getElem?_push_size]
  · show (w.heap.push o)[k]? = _
    rw [Array.getElem?_push, if_neg (by omega)]
theorem add_pl (b o j : Nat) : (⟨b, o, none⟩ : Addr).add j = ⟨b, o + j, none⟩ := by
  unfold Addr.add
  split <;> simp_all
theorem arr_front (A : List Value) (Z : Array Value) {j : Nat} (h : j < A.length) : (A.toArray ++ Z).getD j undef = A.getD j undef := by
  have h2 : j < (A.toArray ++ Z).size := by rw [Array.size_append, List.size_toArray]; omega
  rw [List.getD_eq_getElem?_getD, List.getElem?_eq_getElem h]
  unfold Array.getD
  rw [dif_pos h2]
  show (A.toArray ++ Z)[j] = A[j]
  rw [Array.getElem_append_left (by simpa using h)]; simp
theorem insR_end (l m : List ByteArray) : insR l m l.length = l ++ m := by
  unfold insR
  rw [List.take_length, List.drop_length, List.append_nil]
theorem sVs_app (l m : List ByteArray) : sVs l ++ sVs m = sVs (l ++ m) := List.map_append.symm
theorem ins_grow {w : World} {g0 g1 c mc : Nat} {l m : List ByteArray} (r0 : RowS w g0 c l) (r1 : RowS w g1 mc m) (hm : 0 < m.length) (hbig : (l.length + m.length) * 16 ≤ 140737488355328) (hroom : c < l.length + m.length) :
    Calls Tryd.prog 13 #[.slice (some ⟨g0, 0, none⟩) l.length c, .int .i64 l.length, .slice (some ⟨g1, 0, none⟩) m.length mc] w fun e w' =>
      ∃ g' c', e = .returned (.slice (some ⟨g', 0, none⟩) (insR l m l.length).length c') ∧ (g' = g0 ∨ g' = w.heap.size) ∧ InsW w w' g' c' (insR l m l.length) := by
  have hmx : l.length + m.length ≤ maxLen := by unfold maxLen; omega
  refine (Any2.slices_Insert_string_end_grow Tryd.insL (some ⟨g0, 0, none⟩) l.length c g1 0 m.length mc (sVs l) (sVs m) w hm r0.le hroom hbig (sVs_len l) (sVs_len m) (fun h => by cases h) (fun a ha j v h => by cases ha; rw [add_pl]; exact r0.at j v h) r1.at (sVs_one m)).mono ?_
  rintro e w' ⟨rfl, rfl⟩
  have hge := grownCap_ge w (l.length + m.length) c 9
  have hle := grownCap_le_maxLen w (l.length + m.length) c 9 hmx
  refine ⟨w.heap.size, _, by rw [insR_len (Nat.le_refl _)], .inr rfl, ?_⟩
  obtain ⟨p1, p2⟩ := heap_alloc (w := w.drew) (o := .cells ((sVs l ++ sVs m).toArray ++ Builtin.zeroCells (Value.string ⟨#[]⟩).cells (grownCap w (l.length + m.length) c 9 - (l.length + m.length))) 9)
  refine ⟨rfl, rfl, rfl, by show w.heap.size ≤ (w.heap.push _).size; rw [Array.size_push]; exact Nat.le_succ _, fun k hk _ => p2 k hk, ⟨_, p1, ?_, fun j hj => ?_⟩, by rw [insR_len (Nat.le_refl _)]; exact hge, hle⟩
  · rw [Array.size_append, List.size_toArray, List.length_append, sVs_len, sVs_len, size_zeroCells, show (Value.string ⟨#[]⟩).cells.size = 1 from rfl]
    show _ = grownCap w (l.length + m.length) c 9
    omega
  · rw [insR_end] at hj ⊢
    rw [arr_front _ _ (by rw [sVs_app, sVs_len]; exact hj), sVs_app]
    exact sVs_get hj
theorem ins_mid {w : World} {g0 g1 c mc i : Nat} {l m : List ByteArray} (r0 : RowS w g0 c l) (r1 : RowS w g1 mc m) (hm : 0 < m.length) (hi : i < l.length) (hbig : (l.length + m.length) * 16 ≤ 140737488355328) (hroom : c < l.length + m.length) :
    Calls Tryd.prog 13 #[.slice (some ⟨g0, 0, none⟩) l.length c, .int .i64 i, .slice (some ⟨g1, 0, none⟩) m.length mc] w fun e w' =>
      ∃ g' c', e = .returned (.slice (some ⟨g', 0, none⟩) (insR l m i).length c') ∧ (g' = g0 ∨ g' = w.heap.size) ∧ InsW w w' g' c' (insR l m i) := by
  have hmx : l.length + m.length ≤ maxLen := by unfold maxLen; omega
  refine (Any2.slices_Insert_string_grow Tryd.insL g0 0 l.length c i g1 0 m.length mc (sVs l) (sVs m) w hi hm r0.le hroom hbig (sVs_len l) (sVs_len m) r0.at r1.at (sVs_one l) (sVs_one m)).mono ?_
  rintro e w' ⟨rfl, rfl⟩
  have hge := grownCap_ge w (l.length + m.length) c 9
  have hle := grownCap_le_maxLen w (l.length + m.length) c 9 hmx
  have hd : (sVs l).drop i = sVs (l.drop i) := (List.map_drop ..).symm
  have ht : (sVs l).take i = sVs (l.take i) := (List.map_take ..).symm
  have hdl : (sVs (l.drop i)).length = l.length - i := by rw [sVs_len, List.length_drop]
  rw [hd, ht]
  generalize hA : ((sVs (l.take i)).toArray ++ Builtin.zeroCells (Value.string ⟨#[]⟩).cells (l.length + m.length - i) ++ Builtin.zeroCells (Value.string ⟨#[]⟩).cells (grownCap w (l.length + m.length) c (Tryd.insL_ren.t 9) - (l.length + m.length))) = A
  have hAs : A.size = grownCap w (l.length + m.length) c 9 := by
    rw [← hA, Array.size_append, Array.size_append, List.size_toArray, sVs_len, List.length_take, size_zeroCells, size_zeroCells, show (Value.string ⟨#[]⟩).cells.size = 1 from rfl]
    show _ + (grownCap w (l.length + m.length) c 9 - _) * 1 = _
    omega
  have hAv : ∀ j, j < i → A.getD j undef = .string (l.getD j Dat.d0) := fun j hj => by
    have hl : j < (sVs (l.take i)).length := by rw [sVs_len, List.length_take]; omega
    rw [← hA, Array.append_assoc, arr_front _ _ hl, sVs_get (by rw [List.length_take]; omega), List.getD_eq_getElem?_getD, List.getElem?_take, if_pos hj, ← List.getD_eq_getElem?_getD]
  obtain ⟨p1, p2⟩ := heap_alloc (w := w) (o := .cells A 9)
  obtain ⟨c1, a1, a2, a3⟩ := cells_set w.heap.size (sVs m) i (w.alloc (.cells A 9)).drew A 9 p1 (by rw [sVs_len, hAs]; omega)
  obtain ⟨c2, b1, b2, b3⟩ := cells_set w.heap.size (sVs (l.drop i)) (i + m.length) ((w.alloc (.cells A 9)).drew.setCells w.heap.size i (sVs m)).drew c1 9 a1 (by rw [hdl, a2, hAs]; omega)
  obtain ⟨e1, e2, e3, e4, e5⟩ := cells_keep w.heap.size (sVs m) i (w.alloc (.cells A 9)).drew
  obtain ⟨f1, f2, f3, f4, f5⟩ := cells_keep w.heap.size (sVs (l.drop i)) (i + m.length) ((w.alloc (.cells A 9)).drew.setCells w.heap.size i (sVs m)).drew
  refine ⟨w.heap.size, _, by rw [insR_len (by omega)], .inr rfl, ?_⟩
  refine ⟨f1.trans e1, f2.trans e2, f3.trans e3, ?_, fun k hk hne => (f5 k hne).trans ((e5 k hne).trans (p2 k hk)), ⟨c2, b1, by rw [b2, a2, hAs]; rfl, fun j hj => ?_⟩, by rw [insR_len (by omega)]; exact hge, hle⟩
  · have : ((w.alloc (.cells A 9)).drew.setCells w.heap.size i (sVs m)).drew.heap.size = w.heap.size + 1 := e4.trans (Array.size_push ..)
    exact Nat.le_trans (Nat.le_succ _) (Nat.le_of_eq (f4.trans this).symm)
  · rw [insR_len (by omega)] at hj
    rw [insR_get (by omega) hj, b3, hdl, a3, sVs_len]
    by_cases q1 : j < i
    · rw [if_neg (by omega), if_neg (by omega), if_pos q1]; exact hAv j q1
    · rw [if_neg q1]
      by_cases q2 : j < i + m.length
      · rw [if_neg (by omega), if_pos (by omega), if_pos q2]; exact sVs_get (by omega)
      · rw [if_pos (by omega), if_neg q2, sVs_get (by rw [List.length_drop]; omega), List.getD_eq_getElem?_getD, List.getElem?_drop, ← List.getD_eq_getElem?_getD]
        congr 2; omega

end Go.Proofs.YtebiaihhpflpgaaDoor
