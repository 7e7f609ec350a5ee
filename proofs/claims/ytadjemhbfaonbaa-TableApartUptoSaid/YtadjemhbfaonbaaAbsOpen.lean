/- Arguments that came in, whatever their type: they are data. -/
import Derived.Test.YtadjemhbfaonbaaAbsDat
import Derived.Test.YtadjemhbfaonbaaAbsRow2
set_option linter.all false
namespace Go.Abs
open Go Go.RowKit Go.WideShapes Go.ChangeShapes Go.ChangeAt Go.Deep Go.Joins

mutual
/-- How much a reading holds. -/
def bulkD {H : Type} : DataW H → Nat
  | .lit (.string bytes) => bytes.length + 1
  | .lit _ => 1
  | .nil => 1
  | .ptr d => bulkD d + 1
  | .slice elems spare => bulkL elems + bulkL spare + 1
  | .agg parts => bulkL parts + 1
  | .iface _ d => bulkD d + 1
  | .map entries => bulkE entries + 1
  | .held _ => 1
def bulkL {H : Type} : List (DataW H) → Nat
  | [] => 0
  | d :: r => bulkD d + bulkL r
def bulkE {H : Type} : List (Lit × DataW H) → Nat
  | [] => 0
  | x :: r => bulkX x + bulkE r
def bulkX {H : Type} : Lit × DataW H → Nat
  | (.string bytes, d) => bytes.length + bulkD d + 1
  | (_, d) => bulkD d + 1
end

/-- How much a datum holds, and that its numbers are of the machine. -/
class Siz (α : Type) where
  fit : α → Prop
  bulk : α → Nat
instance sizI : Siz Int := ⟨InR, fun _ => 1⟩
instance sizB : Siz Bool := ⟨fun _ => True, fun _ => 1⟩
instance sizS : Siz ByteArray := ⟨fun s => s.size ≤ maxLen, fun s => s.size + 1⟩
instance sizL {α : Type} [Siz α] : Siz (List α) := ⟨fun l => l.length ≤ maxLen ∧ ∀ x ∈ l, Siz.fit x, fun l => (l.map Siz.bulk).sum + 1⟩

theorem bulk_len {α : Type} [Siz α] (h : ∀ x : α, 1 ≤ Siz.bulk x) (l : List α) : l.length ≤ (l.map Siz.bulk).sum := by
  induction l with
  | nil => simp
  | cons x r ih => have := h x; simp; omega

section
variable {P : Program} {w : World}

/-- Cells that stand for a list of closed values. -/
def OpenCs (w : World) (cs : List Value) (L : List AV) : Prop :=
  cs.length = L.length ∧ (∀ v ∈ cs, v.oneCell' = true) ∧ ∀ (j : Nat) (z : AV), L[j]? = some z → RepC w (fun _ => False) z (cs.getD j undef)
theorem openCs_nil : OpenCs w [] [] := ⟨rfl, by simp, by simp⟩
theorem openCs_app {c1 c2 : List Value} {l1 l2 : List AV} (h1 : OpenCs w c1 l1) (h2 : OpenCs w c2 l2) : OpenCs w (c1 ++ c2) (l1 ++ l2) := by
  obtain ⟨a1, a2, a3⟩ := h1
  obtain ⟨b1, b2, b3⟩ := h2
  refine ⟨by simp [a1, b1], fun v hv => ?_, fun j z hj => ?_⟩
  · rcases List.mem_append.1 hv with h | h
    · exact a2 v h
    · exact b2 v h
  · rw [List.getElem?_append] at hj
    rw [List.getD_eq_getElem?_getD, List.getElem?_append]
    by_cases hlt : j < l1.length
    · rw [if_pos hlt] at hj
      rw [if_pos (by omega), ← List.getD_eq_getElem?_getD]
      exact a3 j z hj
    · rw [if_neg hlt] at hj
      rw [if_neg (by omega), ← List.getD_eq_getElem?_getD, a1]
      exact b3 _ z hj

def Opn (P : Program) (t : TypeId) (α : Type) [Dat α] [Siz α] : Prop :=
  ∀ {H : Type} {enc : TypeId × Value → H} {w : World} {fuel : Nat} {cs : List Value} {x : DataW H × List MemPlace}, DataW.trod enc P w 0 (fun _ => true) true fuel t cs = some x →
    ∃ y : α, Siz.fit y ∧ Siz.bulk y ≤ bulkD x.1 ∧ OpenCs w cs (Dat.enc fun _ => y)

theorem inR_of {n : Int} (h : (Lit.int .i64 n).wf = true) : InR n := by
  have h1 : IntKind.i64.max = 9223372036854775807 := rfl
  have h2 : IntKind.i64.min = -9223372036854775808 := rfl
  simp only [Lit.wf, Bool.and_eq_true, decide_eq_true_eq, h1, h2] at h
  exact h

theorem opn_int {t : TypeId} (ht : P.underlying t = some (.int .i64)) : Opn P t Int := by
  intro H enc w fuel cs x h
  obtain ⟨n, rfl, rfl, hw⟩ := DataW.trod_int ht h
  exact ⟨n, inR_of hw, Nat.le_refl _, rfl, by simp [Value.oneCell'], fun j z hj => by
    match j, hj with
    | 0, hj => simp [Dat.enc, Leaf.av] at hj; subst hj; exact .i .i64 fun _ => n
    | j + 1, hj => simp [Dat.enc] at hj⟩
theorem opn_bool {t : TypeId} (ht : P.underlying t = some .bool) : Opn P t Bool := by
  intro H enc w fuel cs x h
  obtain ⟨n, rfl, rfl⟩ := DataW.trod_bool ht h
  exact ⟨n, trivial, Nat.le_refl _, rfl, by simp [Value.oneCell'], fun j z hj => by
    match j, hj with
    | 0, hj => simp [Dat.enc, Leaf.av] at hj; subst hj; exact .b fun _ => n
    | j + 1, hj => simp [Dat.enc] at hj⟩
theorem opn_str {t : TypeId} (ht : P.underlying t = some .string) : Opn P t ByteArray := by
  intro H enc w fuel cs x h
  obtain ⟨s, rfl, rfl, hw⟩ := DataW.trod_string ht h
  exact ⟨s, hw, by simp [Siz.bulk, bulkD], rfl, by simp [Value.oneCell'], fun j z hj => by
    match j, hj with
    | 0, hj => simp [Dat.enc, Leaf.av] at hj; subst hj; exact .s fun _ => s
    | j + 1, hj => simp [Dat.enc] at hj⟩

theorem bulkL_app {H : Type} (l r : List (DataW H)) : bulkL (l ++ r) = bulkL l + bulkL r := by
  induction l with
  | nil => simp [bulkL]
  | cons x l ih => simp only [List.cons_append, bulkL, ih]; omega
theorem bulkL_map {H α : Type} [Siz α] (D : Nat → DataW H) (g : Nat → α) (n : Nat) (h : ∀ i, i < n → Siz.bulk (g i) ≤ bulkD (D i)) : ((lst n g).map Siz.bulk).sum ≤ bulkL ((List.range n).map D) := by
  induction n with
  | zero => simp [lst]
  | succ n ih =>
    have := ih fun i hi => h i (by omega)
    have h2 := h n (by omega)
    simp only [lst] at this
    simp only [lst, List.range_succ, List.map_append, List.sum_append, bulkL_app]
    simp [bulkL]
    simp at this
    omega

theorem opn_slice {t e : TypeId} {α : Type} [Dat α] [Siz α] (ht : P.underlying t = some (.slice e)) (hc : P.cellsOf e = Dat.sz α) (hpos : 0 < Dat.sz α) (he : Opn P e α) : Opn P t (List α) := by
  intro H enc w fuel cs x h
  rcases open_slice ht h with ⟨rfl, rfl⟩ | ⟨a, len, cap, m, n, D, Pl, rfl, _, hl, hm, hmm, rfl, hi⟩
  · exact ⟨[], ⟨Nat.zero_le _, by simp⟩, by simp [Siz.bulk, bulkD], rfl, by simp [Value.oneCell'], fun j z hj => by
      match j, hj with
      | 0, hj => simp [Dat.enc, Leaf.av] at hj; subst hj; exact .sl0 _ _ _ _ _ rfl (Nat.zero_le _)
      | j + 1, hj => simp [Dat.enc] at hj⟩
  · have hx : ∀ i, ∃ y : α, i < len → Siz.fit y ∧ Siz.bulk y ≤ bulkD (D i) ∧ ∃ cs', w.cells? 0 (a.add (i * P.cellsOf e)) (P.cellsOf e) = some cs' ∧ OpenCs w cs' (Dat.enc fun _ => y) := by
      intro i
      by_cases hil : i < len
      · obtain ⟨cs', h1, h2⟩ := hi i (by rw [hmm]; simp; omega)
        obtain ⟨y, y1, y2, y3⟩ := he h2
        exact ⟨y, fun _ => ⟨y1, y2, cs', h1, y3⟩⟩
      · exact ⟨Dat.d0, fun h => absurd h hil⟩
    have hg := fun i => (hx i).choose_spec
    generalize hG : (fun i => (hx i).choose) = g
    have hg : ∀ i, i < len → Siz.fit (g i) ∧ Siz.bulk (g i) ≤ bulkD (D i) ∧ ∃ cs', w.cells? 0 (a.add (i * P.cellsOf e)) (P.cellsOf e) = some cs' ∧ OpenCs w cs' (Dat.enc fun _ => g i) := fun i => by
      subst hG; exact hg i
    refine ⟨lst len g, ⟨by rw [lst_len]; omega, fun y hy => ?_⟩, ?_, rfl, by simp [Value.oneCell'], fun j z hj => ?_⟩
    · obtain ⟨i, hi, rfl⟩ := List.mem_map.1 hy
      exact (hg i (by simpa using hi)).1
    · have := bulkL_map D g len fun i hi => (hg i hi).2.1
      show _ + 1 ≤ bulkL _ + bulkL _ + 1
      omega
    · match j, hj with
      | 0, hj =>
        simp [Dat.enc, Leaf.av] at hj
        subst hj
        have key : ∀ i, i < len → (fun _ : Unit => (lst len g).getD i Dat.d0) = fun _ => g i := fun i hi => funext fun _ => lst_get hi
        have hcell : ∀ i j, i < len → j < Dat.sz α → ∃ v, w.cell? (a.add (i * Dat.sz α + j)) = some v ∧ v.oneCell' = true ∧ ∀ z, (Dat.enc fun _ : Unit => g i)[j]? = some z → RepC w (fun _ => False) z v := by
          intro i j hi hj
          obtain ⟨_, _, cs', h1, h2, h3, h4⟩ := hg i hi
          obtain ⟨_, hcl, hat⟩ := World.cells?_some h1
          have hj' : j < cs'.length := by rw [h2, Dat.hlen]; exact hj
          have := hat j (by rw [hc]; exact hj)
          rw [List.getElem?_eq_getElem hj', Go.Deep.add_add, hc] at this
          exact ⟨cs'[j], this, h3 _ (List.getElem_mem hj'), fun z hz => by have := h4 j z hz; simpa [hj'] using this⟩
        simp only [List.getD_cons_zero]
        have := lst_len len g
        rw [show Value.slice (some a) len cap = Value.slice (some a) (lst len g).length cap by rw [this]]
        refine .sl (Dat.sz α) (fun _ => (lst len g).length) _ a cap (fun i j => (w.cell? (a.add (i * Dat.sz α + j))).getD undef) id hpos (by rw [this]; exact hl) hm (fun i _ => Dat.hlen (fun _ : Unit => (lst len g).getD i Dat.d0)) (fun i j hi hj => ?_) (fun i j hi hj => ?_) fun i j z hi hj => ?_
        · rw [this] at hi
          obtain ⟨v, h1, _⟩ := hcell i j hi hj
          rw [h1]; rfl
        · rw [this] at hi
          obtain ⟨v, h1, h2, _⟩ := hcell i j hi hj
          rw [h1]; exact h2
        · rw [this] at hi
          have hj : (Dat.enc fun _ : Unit => (lst len g).getD i Dat.d0)[j]? = some z := hj
          rw [key i hi] at hj
          have hjs : j < Dat.sz α := by rw [← Dat.hlen (fun _ : Unit => g i)]; exact (List.getElem?_eq_some_iff.1 hj).1
          obtain ⟨v, h1, _, h3⟩ := hcell i j hi hjs
          rw [h1]; exact h3 z hj
      | j + 1, hj => simp [Dat.enc] at hj

/-- A value of one cell. -/
theorem arg_leaf {t : TypeId} {α : Type} [Leaf α] {D : α} [Siz α] {H : Type} {enc : TypeId × Value → H} {v : Value} {d : DataW H} {ps : List MemPlace} (ho : @Opn P t α (Dat.ofLeaf α D) _) (hv : v.cells.toList = [v])
    (h : DataW.Trod enc P w 0 (fun _ => true) true t v d ps) : ∃ y : α, Siz.fit y ∧ Siz.bulk y ≤ bulkD d ∧ RepC w (fun _ => False) (Leaf.av fun _ => y) v := by
  obtain ⟨fuel, hf⟩ := h
  obtain ⟨y, h1, h2, h3, h4, h5⟩ := ho hf
  exact ⟨y, h1, h2, by have := h5 0 _ rfl; rw [hv] at this; exact this⟩
/-- A struct. -/
theorem arg_agg {t : TypeId} {α : Type} [Dat α] [Siz α] {H : Type} {enc : TypeId × Value → H} {cs : Array Value} {d : DataW H} {ps : List MemPlace} (ho : Opn P t α)
    (h : DataW.Trod enc P w 0 (fun _ => true) true t (.agg cs) d ps) : ∃ y : α, Siz.fit y ∧ Siz.bulk y ≤ bulkD d ∧ RepC w (fun _ => False) (.agg (Dat.enc fun _ => y)) (.agg cs) := by
  obtain ⟨fuel, hf⟩ := h
  obtain ⟨y, h1, h2, h3, h4, h5⟩ := ho hf
  refine ⟨y, h1, h2, .agg _ cs (by simpa [Value.cells] using h3) (fun v hv => h4 v (by simpa [Value.cells] using hv)) fun j z hj => ?_⟩
  have := h5 j z hj
  simpa [Value.cells, Array.getD_eq_getD_getElem?, List.getD_eq_getElem?_getD] using this

end
end Go.Abs
