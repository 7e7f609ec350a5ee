/- Arguments that came in: slices of plain structs. -/
import Derived.Test.YtadjemhbfaonbaaAbsRow
import Derived.Deep.Slices
import Derived.OpenShut
import Derived.ShutString
import Derived.ChangeOld
set_option linter.all false
namespace Go.Abs
open Go Go.RowKit Go.WideShapes Go.ChangeShapes Go.ChangeAt Go.Deep Go.Joins

section
variable {H : Type} {enc : TypeId × Value → H} {P : Program} {w : World}

/-- The cells of a slice of structs, each field of one cell. -/
theorem flat_cells {t e : TypeId} {fs : Array Field} {a0 : Option Addr} {n0 c0 : Nat} {d : DataW H} {ps : List MemPlace} (ht : P.underlying t = some (.slice e)) (he : P.underlying e = some (.struct fs)) (hone : oneCellFields P fs = true)
    (hC : P.cellsOf e = fs.size) (h : DataW.Trod enc P w 0 (fun _ => true) true t (.slice a0 n0 c0) d ps) :
    (a0 = none ∧ n0 = 0 ∧ c0 = 0) ∨ ∃ a, a0 = some a ∧ n0 ≤ c0 ∧ c0 ≤ maxLen ∧ ∀ i, i < n0 → ∀ (j : Nat) (f : Field), fs[j]? = some f → ∃ u n y, w.cell? (a.add (i * fs.size + j)) = some u ∧ DataW.trod enc P w 0 (fun _ => true) true n f.type [u] = some y := by
  obtain ⟨fuel, hf⟩ := h
  rcases open_slice ht hf with ⟨hcs, _⟩ | ⟨a, len, cap, m, n, D, Pl, hcs, _, hl, hm, hmm, _, hi⟩
  · simp [Value.cells] at hcs; exact .inl hcs
  · simp [Value.cells] at hcs
    obtain ⟨rfl, rfl, rfl⟩ := hcs
    refine .inr ⟨a, rfl, hl, hm, fun i hin j f hj => ?_⟩
    have him : i < m := by rw [hmm]; simp; omega
    obtain ⟨cs', hc, ht'⟩ := hi i him
    rw [hC] at hc
    obtain ⟨ys, n', _, _, _, hyl, hfd⟩ := DataW.trod_struct he ht'
    obtain ⟨_, hcl, hat⟩ := World.cells?_some hc
    obtain ⟨ho, hk⟩ := hone_of hone j f hj
    have hjl : j < fs.size := (Array.getElem?_eq_some_iff.1 hj).1
    have hjc : j < cs'.length := by omega
    have h1 := hfd j f hj
    rw [ho, hk, List.drop_eq_getElem_cons hjc] at h1
    have hys : ys[j]? = some (ys[j]'(by omega)) := List.getElem?_eq_getElem (by omega)
    rw [hys] at h1
    refine ⟨cs'[j], n', _, ?_, h1⟩
    have := hat j hjl
    rw [List.getElem?_eq_getElem hjc] at this
    rw [← Go.Deep.add_add]
    exact this

theorem int_cell {k : IntKind} {t : TypeId} {u : Value} {n : Nat} {y : DataW H × List MemPlace} (ht : P.underlying t = some (.int k)) (h : DataW.trod enc P w 0 (fun _ => true) true n t [u] = some y) : ∃ x, u = .int k x := by
  obtain ⟨x, h1, _⟩ := DataW.trod_int ht h
  exact ⟨x, by simpa using h1⟩

end
end Go.Abs
