/- From a contract to a row: what a law's call leaves. -/
import Derived.Test.YtadjemhbfaonbaaAbsUse
import Derived.ProofKit
import Derived.Below
import Derived.Carry
import Derived.Lib.SmallJoins
import Derived.KernelRfl
set_option linter.all false
namespace Go.Abs
open Go Go.RowKit Go.WideShapes Go.ChangeShapes Go.ChangeAt

theorem law_calls {P : Program} {f : FuncId} {A : List AV} {args : Array Value} {W : World} (h : FnOk P f A [] (outLe 0 (.bc true) [] [])) (hA : RepL W (fun _ => False) (fun _ => none) (fun _ => 0) A args.toList) :
    Calls P f args W fun e W' => e = .returned (.bool true) ∧ Below W.heap.size W W' := by
  refine (h W (fun _ => False) (fun _ => none) (fun _ => 0) args ⟨fun _ _ => rfl, fun b o hb => by simp at hb, fun b b' o o' g hb => by simp at hb, fun _ hk => hk.elim⟩ hA).mono ?_
  rintro e W' ⟨v, r, H', kl, M', β', cp', rfl, ho, hh, hak, hrep⟩
  cases ho with
  | mk h1 h2 =>
    have := le_sound _ _ _ _ hrep h1
    refine ⟨by rw [rep_bc this], ⟨hak.ext.os, hak.ext.tape, hak.ext.output, hak.ext.size, fun k hk => hak.ext.block k hk ?_⟩⟩
    rintro ⟨b, o, hb, _⟩
    simp at hb

theorem trodAll_below {H : Type} {enc : TypeId × Value → H} {P : Program} (hl : laidOutB P = true) {W W' : World} (hb : Below W.heap.size W W') :
    ∀ {ts : List TypeId} {vs : List Value} {ds : List (DataW H)} {ps : List MemPlace}, (∀ t ∈ ts, P.readableRec t = true ∧ t < P.types.size) → (∀ x ∈ ps, x.block < W.heap.size) →
      DataW.TrodAll enc P W 0 (fun _ => true) true ts vs ds ps → DataW.TrodAll enc P W' 0 (fun b => decide (b < W.heap.size)) true ts vs ds ps
  | [], [], [], _, _, _, h => h
  | t :: ts, v :: vs, d :: ds, ps, hr, hp, ⟨p, q, h1, h2, e⟩ => by
    have hp' : ∀ x, x ∈ p ∨ x ∈ q → x.block < W.heap.size := fun x hx => hp x (by rw [e]; exact List.mem_append.2 hx)
    exact ⟨p, q, Below.trod hl (hr t (by simp)).1 (hr t (by simp)).2 h1 hb fun x hx => hp' x (.inl hx), trodAll_below hl hb (fun t ht => hr t (by simp [ht])) (fun x hx => hp' x (.inr hx)) h2, e⟩

theorem repL_nil {w : World} {M : Nat → Prop} {β : Nat → Option Nat} {cp : Nat → Nat} : RepL w M β cp [] [] := ⟨rfl, fun j x hj => by simp at hj⟩
theorem repL_cons {w : World} {M : Nat → Prop} {β : Nat → Option Nat} {cp : Nat → Nat} {x : AV} {l : List AV} {v : Value} {vs : List Value} (h : Rep w M β cp x v) (hl : RepL w M β cp l vs) : RepL w M β cp (x :: l) (v :: vs) :=
  ⟨by simp [hl.1], fun j y hj => by
    cases j with
    | zero => simp at hj; subst hj; simpa using h
    | succ j => have := hl.2 j y (by simpa using hj); simpa using this⟩

theorem repC_agg {w : World} {M : Nat → Prop} {l : List AV} {vs : List Value} (hl : RepL w M (fun _ => none) (fun _ => 0) l vs) (hc : closedL l = true) (ho : vs.all (·.oneCell') = true) : RepC w M (.agg l) (.agg vs.toArray) :=
  .agg l _ (by simpa using hl.1) (fun v hv => by have := List.all_eq_true.1 ho v (by simpa using hv); simpa using this) fun j x hj => by
    have := closed_rep (hl.2 j x hj) (closedL_get hc hj)
    rw [getD_list]; exact this

/-- A slice that came in: each of its elements stands for something. -/
theorem sl_of_cells {w : World} {M : Nat → Prop} {α : Type} {L : α → List AV} {sz n cap : Nat} {a : Addr} (x0 : α) (hM : ¬ M a.block) (hsz : 0 < sz) (hlen : ∀ x, (L x).length = sz) (hn : n ≤ cap) (hc : cap ≤ maxLen)
    (h : ∀ i, i < n → ∃ x : α, ∀ j, j < sz → ∃ (y : AV) (v : Value), (L x)[j]? = some y ∧ w.cell? (a.add (i * sz + j)) = some v ∧ v.oneCell' = true ∧ RepC w M y v) :
    ∃ g : Nat → α, RepC w M (.sl sz (fun _ => n) fun i => L (g (i ()))) (.slice (some a) n cap) := by
  have hx : ∀ i, ∃ x : α, i < n → ∀ j, j < sz → ∃ (y : AV) (v : Value), (L x)[j]? = some y ∧ w.cell? (a.add (i * sz + j)) = some v ∧ v.oneCell' = true ∧ RepC w M y v := by
    intro i
    by_cases hi : i < n
    · obtain ⟨x, hx⟩ := h i hi; exact ⟨x, fun _ => hx⟩
    · exact ⟨x0, fun h => absurd h hi⟩
  refine ⟨fun i => (hx i).choose, ?_⟩
  have hg := fun i => (hx i).choose_spec
  refine .sl sz (fun _ => n) _ a cap (fun i j => (w.cell? (a.add (i * sz + j))).getD undef) hM hsz hn hc (fun i hi => hlen _) (fun i j hi hj => ?_) (fun i j hi hj => ?_) fun i j y hi hj => ?_
  · obtain ⟨y, v, h1, h2, h3, h4⟩ := hg i hi j hj
    rw [h2]; rfl
  · obtain ⟨y, v, h1, h2, h3, h4⟩ := hg i hi j hj
    rw [h2]; exact h3
  · have hjs : j < sz := by rw [← hlen (hx i).choose]; exact (List.getElem?_eq_some_iff.1 hj).1
    obtain ⟨y', v, h1, h2, h3, h4⟩ := hg i hi j hjs
    rw [h2]
    have hj' : (L (hx i).choose)[j]? = some y := hj
    rw [h1] at hj'
    cases hj'
    exact h4

end Go.Abs
