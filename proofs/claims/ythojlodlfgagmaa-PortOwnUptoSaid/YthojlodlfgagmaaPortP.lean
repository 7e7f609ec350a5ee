/- The program's functions, walked: PortP. -/
import Derived.Test.YthojlodlfgagmaaPort3
set_option linter.all false
namespace Go.Proofs.Ythojlodlfgagmaa
open Go Go.Abs
/- The plain laws of ports. -/
theorem runP_app : ∀ {l m : List PortOp} {g : Port}, runP g (l ++ m) = runP (runP g l) m
  | [], _, _ => rfl
  | _ :: r, m, _ => by rw [List.cons_append, runP, runP_app (l := r), runP]
theorem ansP_app : ∀ {l m : List PortOp} {g : Port}, ansP g (l ++ m) = ansP g l ++ ansP (runP g l) m
  | [], _, _ => rfl
  | _ :: r, m, _ => by rw [List.cons_append, ansP, ansP_app (l := r), ansP, runP, List.cons_append]
theorem ansP_len : ∀ {l : List PortOp} {g : Port}, (ansP g l).length = l.length
  | [], _ => rfl
  | _ :: r, _ => by rw [ansP, List.length_cons, ansP_len (l := r), List.length_cons]
theorem ansP_get : ∀ {l : List PortOp} {g : Port} {k : Nat}, k < l.length → (ansP g l).getD k Dat.d0 = (stepP (runP g (l.take k)) (l.getD k Dat.d0)).2
  | [], _, _, h => by simp at h
  | o :: r, g, 0, _ => by simp [ansP, runP]
  | o :: r, g, k + 1, h => by
    have := ansP_get (l := r) (g := nextP g o) (k := k) (by simpa using h)
    simpa [ansP, runP] using this
theorem runP_snoc {l : List PortOp} {g : Port} {k : Nat} (h : k < l.length) : runP g (l.take (k + 1)) = nextP (runP g (l.take k)) (l.getD k Dat.d0) := by
  rw [take_snoc Dat.d0 h, runP_app]; rfl
theorem pchk_iff {p : Port} : pchkV p = 0 ↔ pkB p = true ∧ 1 ≤ p.size ∧ p.size ≤ 4096 ∧ (p.texts.length : Int) ≤ p.room ∧ lgB p.size p.texts = false ∧ 0 ≤ p.at_ ∧ p.at_ ≤ 1099511627776 ∧ (0 < p.at_ → p.texts.length ≠ 0 ∧ p.kind ≠ 2) := by
  unfold pchkV
  by_cases h2 : pkB p = true ∧ 1 ≤ p.size ∧ p.size ≤ 4096
  · rw [if_neg (not_not_intro h2)]
    by_cases h3 : p.room < p.texts.length ∨ lgB p.size p.texts = true
    · rw [if_pos h3]
      refine ⟨fun q => absurd q (by decide), fun q => ?_⟩
      rcases h3 with h3 | h3
      · omega
      · rw [h3] at q; exact absurd q.2.2.2.2.1 (by decide)
    · rw [if_neg h3]
      have h5 : lgB p.size p.texts = false := by
        cases hq : lgB p.size p.texts with
        | false => rfl
        | true => exact absurd (.inr hq) h3
      by_cases h4 : p.at_ < 0 ∨ 1099511627776 < p.at_ ∨ 0 < p.at_ ∧ (p.texts.length = 0 ∨ p.kind = 2)
      · rw [if_pos h4]
        exact ⟨fun q => absurd q (by decide), fun q => by omega⟩
      · rw [if_neg h4]
        exact ⟨fun _ => ⟨h2.1, h2.2.1, h2.2.2, by omega, h5, by omega, by omega, by omega⟩, fun _ => rfl⟩
  · rw [if_pos h2]
    exact ⟨fun q => absurd q (by decide), fun q => absurd ⟨q.1, q.2.1, q.2.2.1⟩ h2⟩
theorem may_iff {p : Port} {now : Int} : mayV p now = 0 ↔ pchkV p = 0 ∧ p.at_ ≤ now ∧ now ≤ 1099511627776 := by
  unfold mayV
  by_cases h : pchkV p = 0
  · rw [if_pos h]
    by_cases h1 : now < p.at_ ∨ 1099511627776 < now
    · rw [if_pos h1]; exact ⟨fun q => absurd q (by decide), fun q => by omega⟩
    · rw [if_neg h1]; exact ⟨fun _ => ⟨h, by omega, by omega⟩, fun _ => rfl⟩
  · rw [if_neg h]; exact ⟨fun q => absurd q h, fun q => absurd q.1 h⟩
theorem lgB_drop {n : Int} {l : List ByteArray} (h : lgB n l = false) : lgB n (l.drop 1) = false := by
  unfold lgB at *
  cases l with
  | nil => exact h
  | cons a r =>
    rw [List.any_cons, Bool.or_eq_false_iff] at h
    exact h.2
theorem lgB_app {n : Int} {l : List ByteArray} {s : ByteArray} (h : lgB n l = false) (hs : (s.size : Int) ≤ n) : lgB n (l ++ [s]) = false := by
  unfold lgB at *
  rw [List.any_append, h, List.any_cons, List.any_nil, Bool.or_false, Bool.false_or]
  exact decide_eq_false (by omega)
/-- A step: refused and nothing changed, or a write, or a read. -/
theorem step_law (p : Port) (o : PortOp) :
    (¬ (stepP p o).2.err = 0 ∧ nextP p o = p) ∨
    ((stepP p o).2.err = 0 ∧ o.kind = 1 ∧ wr1 p o.text o.now = 0 ∧ nextP p o = wrP p o.text o.now) ∨
    ((stepP p o).2.err = 0 ∧ o.kind = 2 ∧ rd1 p o.now = 0 ∧ nextP p o = rdP p ∧ (stepP p o).2.text = p.texts.getD 0 Dat.d0 ∧ (stepP p o).2.fresh = rdB p o.now) := by
  by_cases h : (stepP p o).2.err = 0
  · right
    have hn : nextP p o = (stepP p o).1 := if_pos h
    by_cases h1 : o.kind = 1
    · left
      have hs : stepP p o = ((writeV p o.text o.now).1, ⟨.empty, false, (writeV p o.text o.now).2⟩) := if_pos h1
      have hw : wr1 p o.text o.now = 0 := by
        rw [hs] at h
        have h : (writeV p o.text o.now).2 = 0 := h
        unfold writeV at h
        by_cases h2 : wr1 p o.text o.now = 0
        · exact h2
        · rw [if_neg h2] at h; exact absurd h h2
      refine ⟨h, h1, hw, ?_⟩
      rw [hn, hs, writeV, if_pos hw]
    · by_cases h2 : o.kind = 2
      · right
        have hs : stepP p o = ((readV p o.now).1, ⟨(readV p o.now).2.1, (readV p o.now).2.2.1, (readV p o.now).2.2.2⟩) := (if_neg h1).trans (if_pos h2)
        have hr : rd1 p o.now = 0 := by
          rw [hs] at h
          have h : (readV p o.now).2.2.2 = 0 := h
          unfold readV at h
          by_cases h3 : rd1 p o.now = 0
          · exact h3
          · rw [if_neg h3] at h; exact absurd h h3
        have hv : readV p o.now = (rdP p, p.texts.getD 0 Dat.d0, rdB p o.now, 0) := if_pos hr
        refine ⟨h, h2, hr, ?_, ?_, ?_⟩
        · rw [hn, hs, hv]
        · rw [hs, hv]
        · rw [hs, hv]
      · have hs : stepP p o = (p, ⟨.empty, false, 1⟩) := (if_neg h1).trans (if_neg h2)
        rw [hs] at h; exact absurd (show (1 : Int) = 0 from h) (by decide)
  · exact .inl ⟨h, if_neg h⟩
theorem wr_ok {p : Port} {s : ByteArray} {now : Int} (h : wr1 p s now = 0) : mayV p now = 0 ∧ (s.size : Int) ≤ p.size ∧ ¬ (p.kind = 2 ∧ (p.texts.length : Int) = p.room) := by
  unfold wr1 at h
  by_cases h1 : mayV p now = 0
  · rw [if_pos h1] at h
    by_cases h2 : p.size < s.size
    · rw [if_pos h2] at h; cases h
    · rw [if_neg h2] at h
      by_cases h3 : p.kind = 2 ∧ (p.texts.length : Int) = p.room
      · rw [if_pos h3] at h; cases h
      · exact ⟨h1, by omega, h3⟩
  · rw [if_neg h1] at h; exact absurd h h1
theorem rd_ok {p : Port} {now : Int} (h : rd1 p now = 0) : mayV p now = 0 ∧ p.texts.length ≠ 0 := by
  unfold rd1 at h
  by_cases h1 : mayV p now = 0
  · rw [if_pos h1] at h
    by_cases h2 : p.texts.length = 0
    · rw [if_pos h2] at h; cases h
    · exact ⟨h1, h2⟩
  · rw [if_neg h1] at h; exact absurd h h1
theorem next_fix (p : Port) (o : PortOp) : (nextP p o).kind = p.kind ∧ (nextP p o).size = p.size ∧ (nextP p o).room = p.room ∧ (nextP p o).fresh = p.fresh := by
  rcases step_law p o with ⟨-, h⟩ | ⟨-, -, -, h⟩ | ⟨-, -, -, h, -⟩
  · rw [h]; exact ⟨rfl, rfl, rfl, rfl⟩
  · rw [h]; unfold wrP; by_cases q : p.kind = 1
    · rw [if_pos q]; exact ⟨rfl, rfl, rfl, rfl⟩
    · rw [if_neg q]; exact ⟨rfl, rfl, rfl, rfl⟩
  · rw [h]; unfold rdP; by_cases q : p.kind = 1
    · rw [if_pos q]; exact ⟨rfl, rfl, rfl, rfl⟩
    · rw [if_neg q]; exact ⟨rfl, rfl, rfl, rfl⟩
theorem next_chk {p : Port} {o : PortOp} (h0 : pchkV p = 0) : pchkV (nextP p o) = 0 := by
  have hp := pchk_iff.1 h0
  have hk := pkB_iff.1 hp.1
  obtain ⟨f1, f2, f3, f4⟩ := next_fix p o
  have hkb : pkB (nextP p o) = true := by unfold pkB; rw [f1, f3, f4]; exact hp.1
  rcases step_law p o with ⟨-, h⟩ | ⟨-, -, hw, h⟩ | ⟨-, -, hr, h, -⟩
  · rw [h]; exact h0
  · obtain ⟨w1, w2, w3⟩ := wr_ok hw
    have hm := may_iff.1 w1
    rw [pchk_iff]
    refine ⟨hkb, by omega, by omega, ?_⟩
    rw [f1, f2, f3, h]
    by_cases q : p.kind = 1
    · rw [wrP, if_pos q]
      exact ⟨by show ((1 : Nat) : Int) ≤ _; omega, lgB_app (l := []) rfl w2, by show 0 ≤ o.now; omega, hm.2.2, fun _ => ⟨by show 1 ≠ 0; decide, by omega⟩⟩
    · rw [wrP, if_neg q]
      exact ⟨by show ((p.texts ++ [o.text]).length : Int) ≤ _; rw [List.length_append, List.length_singleton]; omega, lgB_app hp.2.2.2.2.1 w2, hp.2.2.2.2.2.1, hp.2.2.2.2.2.2.1, fun z => by have z : 0 < p.at_ := z; omega⟩
  · obtain ⟨r1, r2⟩ := rd_ok hr
    rw [pchk_iff]
    refine ⟨hkb, by omega, by omega, ?_⟩
    rw [f1, f2, f3, h]
    by_cases q : p.kind = 1
    · rw [rdP, if_pos q]
      exact hp.2.2.2
    · rw [rdP, if_neg q]
      exact ⟨by show ((p.texts.drop 1).length : Int) ≤ _; rw [List.length_drop]; omega, lgB_drop hp.2.2.2.2.1, hp.2.2.2.2.2.1, hp.2.2.2.2.2.2.1, fun z => by have z : 0 < p.at_ := z; omega⟩
theorem run_fix : ∀ (l : List PortOp) (p : Port), (runP p l).kind = p.kind ∧ (runP p l).size = p.size ∧ (runP p l).room = p.room ∧ (runP p l).fresh = p.fresh
  | [], _ => ⟨rfl, rfl, rfl, rfl⟩
  | o :: r, p => by
    obtain ⟨a, b, c, d⟩ := run_fix r (nextP p o)
    obtain ⟨f1, f2, f3, f4⟩ := next_fix p o
    rw [runP]; exact ⟨a.trans f1, b.trans f2, c.trans f3, d.trans f4⟩
theorem run_chk : ∀ (l : List PortOp) {p : Port}, pchkV p = 0 → pchkV (runP p l) = 0
  | [], _, h => h
  | o :: r, p, h => run_chk r (next_chk (o := o) h)
theorem playP_ok {kind size room fresh : Int} {l : List PortOp} {r : Port × List PortAns × Int} (h : r = playP kind size room fresh l) (h0 : r.2.2 = 0) :
    pchkV (port0 kind size room fresh) = 0 ∧ l.length ≤ 500 ∧ r.1 = runP (port0 kind size room fresh) l ∧ r.2.1 = ansP (port0 kind size room fresh) l ∧ r.2.1.length = l.length := by
  unfold playP at h
  by_cases h1 : pchkV (port0 kind size room fresh) = 0
  · rw [if_pos h1] at h
    by_cases h2 : 500 < l.length
    · rw [if_pos h2] at h; subst h; cases h0
    · rw [if_neg h2] at h; subst h; exact ⟨h1, by omega, rfl, rfl, ansP_len⟩
  · rw [if_neg h1] at h; subst h; exact absurd h0 h1
theorem playP_go {kind size room fresh : Int} {l : List PortOp} (h : pchkV (port0 kind size room fresh) = 0) (hl : l.length ≤ 500) :
    playP kind size room fresh l = (runP (port0 kind size room fresh) l, ansP (port0 kind size room fresh) l, 0) := (if_pos h).trans (if_neg (by omega))
/-- A queue's step. -/
theorem queue_law {p : Port} {o : PortOp} (h0 : pchkV p = 0) (hk : p.kind = 2) : ((nextP p o).texts.length : Int) ≤ p.room ∧
    (¬ (stepP p o).2.err = 0 → (nextP p o).texts = p.texts) ∧
    ((stepP p o).2.err = 0 → o.kind = 1 → (nextP p o).texts = p.texts ++ [o.text]) ∧
    ((stepP p o).2.err = 0 → ¬ o.kind = 1 → p.texts = (stepP p o).2.text :: (nextP p o).texts) := by
  have hc := pchk_iff.1 (next_chk (o := o) h0)
  have hf := next_fix p o
  refine ⟨by omega, ?_⟩
  rcases step_law p o with ⟨e, h⟩ | ⟨e, k, hw, h⟩ | ⟨e, k, hr, h, ht, -⟩
  · exact ⟨fun _ => by rw [h], fun q => absurd q e, fun q => absurd q e⟩
  · refine ⟨fun q => absurd e q, fun _ _ => ?_, fun _ q => absurd k q⟩
    rw [h, wrP, if_neg (by omega)]
  · refine ⟨fun q => absurd e q, fun _ q => by omega, fun _ _ => ?_⟩
    obtain ⟨r1, r2⟩ := rd_ok hr
    rw [h, rdP, if_neg (by omega), ht]
    generalize p.texts = t at r2 ⊢
    cases t with
    | nil => exact absurd rfl r2
    | cons a b => rfl
/-- What a sample port holds: nothing, or the last text with its time. -/
def lastB (p : Port) (last : ByteArray) (at_ : Int) : Prop := (at_ = -1 ∧ last = .empty ∧ p.texts = [] ∧ p.at_ = 0) ∨ (0 ≤ at_ ∧ p.texts = [last] ∧ p.at_ = at_)
theorem last_law {p : Port} {o : PortOp} {last : ByteArray} {a : Int} (h0 : pchkV p = 0) (hk : p.kind = 1) (hl : lastB p last a) :
    ((stepP p o).2.err = 0 → o.kind = 1 → lastB (nextP p o) o.text o.now) ∧
    (¬ ((stepP p o).2.err = 0 ∧ o.kind = 1) → lastB (nextP p o) last a) ∧
    ((stepP p o).2.err = 0 → o.kind = 2 → 0 ≤ a ∧ (stepP p o).2.text = last ∧ (stepP p o).2.fresh = decide (o.now - a ≤ p.fresh) ∧ a ≤ o.now ∧ o.now ≤ 1099511627776) ∧
    (¬ (stepP p o).2.err = 0 → o.kind = 2 → 0 ≤ a → a ≤ o.now → ¬ o.now ≤ 1099511627776) := by
  have hc := pchk_iff.1 h0
  rcases step_law p o with ⟨e, h⟩ | ⟨e, k, hw, h⟩ | ⟨e, k, hr, h, ht, hb⟩
  · refine ⟨fun q => absurd q e, fun _ => by rw [h]; exact hl, fun q => absurd q e, fun _ k z1 z2 z3 => e ?_⟩
    rcases hl with ⟨q, -⟩ | ⟨q1, q2, q3⟩
    · omega
    · have hm : mayV p o.now = 0 := may_iff.2 ⟨h0, by omega, z3⟩
      have hr : rd1 p o.now = 0 := by rw [rd1, if_pos hm, if_neg (by rw [q2]; exact Nat.succ_ne_zero _)]
      have hs : stepP p o = ((readV p o.now).1, ⟨(readV p o.now).2.1, (readV p o.now).2.2.1, (readV p o.now).2.2.2⟩) := (if_neg (by omega)).trans (if_pos k)
      have hv : readV p o.now = (rdP p, p.texts.getD 0 Dat.d0, rdB p o.now, 0) := if_pos hr
      rw [hs, hv]
  · refine ⟨fun _ _ => ?_, fun q => absurd ⟨e, k⟩ q, fun _ q => by omega, fun q => absurd e q⟩
    obtain ⟨w1, w2, w3⟩ := wr_ok hw
    have hm := may_iff.1 w1
    rw [h, wrP, if_pos hk]
    exact .inr ⟨by omega, rfl, rfl⟩
  · refine ⟨fun _ q => by omega, fun _ => by rw [h, rdP, if_pos hk]; exact hl, fun _ _ => ?_, fun q => absurd e q⟩
    obtain ⟨r1, r2⟩ := rd_ok hr
    rcases hl with ⟨-, -, q, -⟩ | ⟨q1, q2, q3⟩
    · exact absurd (by rw [q]; rfl) r2
    · refine ⟨q1, by rw [ht, q2]; rfl, ?_⟩
      have hm := may_iff.1 r1
      exact ⟨by rw [hb, rdB, if_pos hk, q3], by omega, hm.2.2⟩

end Go.Proofs.Ythojlodlfgagmaa
