/- Parts, plain: a tick of a right module is right. -/
import Derived.Test.YtbnpacdkllmblaaPartU
set_option linter.all false
namespace Go.Proofs.Ytbnpacdkllmblaa
open Go Go.Abs

theorem numB_0 : numB 0 = true := by decide
theorem numB_get {l : List Int} {k : Nat} (h : allN l) : numB (l.getD k Dat.d0) = true := by
  by_cases hk : k < l.length
  · rw [List.getD_eq_getElem?_getD, List.getElem?_eq_getElem hk]; exact h _ (List.getElem_mem hk)
  · rw [List.getD_eq_getElem?_getD, List.getElem?_eq_none (by omega)]; exact numB_0
theorem part_err {p : Part} (P : POk p) : errV p.code p.vm p.box 1 = 0 := err_iff.2 ⟨P.c, P.v, P.a, P.n, by decide, by decide, by have := P.l; omega⟩
theorem out_num {p : Part} (P : POk p) : ∀ x ∈ outP p, numB x.n = true := by
  have I := inv0 (part_err P)
  unfold outP
  rw [runV_of (part_err P)]
  show ∀ x ∈ (runM p.code 1 (mac0 p.vm p.box)).1.out, _
  rw [runM]
  split
  · intro x hx; cases hx
  · split
    · intro x hx; cases hx
    · cases h : stepM p.code (mac0 p.vm p.box) with
      | none => intro x hx; cases hx
      | some m' =>
        show ∀ x ∈ (runM p.code 0 m').1.out, _
        rw [runM]
        show ∀ x ∈ m'.out, _
        have hn : ∀ k, numB (gR (mac0 p.vm p.box) k) = true := fun k => numB_get I.rn
        unfold stepM at h
        repeat' split at h
        all_goals first
          | (cases h; done)
          | (cases h; intro x hx; cases hx; done)
          | (cases h
             intro x hx
             have hx : x ∈ [_] := hx
             rw [List.mem_singleton.1 hx]
             exact hn _)
theorem ranP_ok {p : Part} (P : POk p) : POk (ranP p) := by
  have I := inv_run P.c 1 _ (inv0 (part_err P))
  have e : (runV p.code p.vm p.box 1).1 = vmOf (runM p.code 1 (mac0 p.vm p.box)).1 := by rw [runV_of (part_err P)]; rfl
  refine ⟨P.c, ?_, ?_, ?_, fun x hx => P.n x (List.mem_of_mem_drop hx)⟩
  · show rightV (runV p.code p.vm p.box 1).1 = 0
    rw [e]; exact inv_right P.c I
  · show (runV p.code p.vm p.box 1).1.at_ ≤ p.code.length
    rw [e]; exact I.a1
  · show (List.drop _ _).length ≤ 50
    rw [List.length_drop]; have := P.l; omega
theorem sendB_p {m : Module} {w : Wire} {n : Int} (h : ∀ p ∈ m.parts, POk p) (hn : numB n = true) : ∀ p ∈ (sendB m w n).parts, POk p := by
  unfold sendB
  split
  · rename_i q
    by_cases hr : w.to.toNat < m.parts.length
    · intro p hp
      rcases List.mem_or_eq_of_mem_set hp with hp | rfl
      · exact h p hp
      · have P := h (m.parts.getD w.to.toNat Dat.d0) (by rw [List.getD_eq_getElem?_getD, List.getElem?_eq_getElem hr]; exact List.getElem_mem hr)
        refine ⟨P.c, P.v, P.a, ?_, fun x hx => ?_⟩
        · show (_ ++ _ : List Int).length ≤ 50
          rw [List.length_append]; simp only [List.length_singleton]; omega
        · rcases List.mem_append.1 hx with hx | hx
          · exact P.n x hx
          · rw [List.mem_singleton.1 hx]; exact hn
    · show ∀ p ∈ m.parts.set _ _, POk p
      rw [List.set_eq_of_length_le (by omega)]; exact h
  · exact h
theorem sendW_p {i : Int} {x : Emit} (hn : numB x.n = true) : ∀ {l : List Wire} {m : Module}, (∀ p ∈ m.parts, POk p) → ∀ p ∈ (sendW i x l m).parts, POk p
  | [], _, h => h
  | w :: r, m, h => by
    rw [sendW]
    split
    · exact sendW_p hn (sendB_p h hn)
    · exact sendW_p hn h
theorem sends_ok {i : Int} : ∀ {out : List Emit} {m : Module}, (∀ x ∈ out, numB x.n = true) → (∀ p ∈ m.parts, POk p) → (sendsV i out m).wires = m.wires ∧ (sendsV i out m).table = m.table ∧ (sendsV i out m).now = m.now ∧ (sendsV i out m).parts.length = m.parts.length ∧
    (m.lost ≤ (sendsV i out m).lost ∧ (sendsV i out m).lost ≤ m.lost + m.wires.length * out.length) ∧ ∀ p ∈ (sendsV i out m).parts, POk p
  | [], m, _, h => ⟨rfl, rfl, rfl, rfl, ⟨Int.le_refl _, by show m.lost ≤ m.lost + m.wires.length * 0; omega⟩, h⟩
  | x :: r, m, hx, h => by
    rw [sendsV]
    have a := sendW_ok (i := i) (x := x) (l := m.wires) (m := m) fun p hp => (h p hp).l
    have b := sends_ok (i := i) (out := r) (m := sendW i x m.wires m) (fun y hy => hx y (List.mem_cons_of_mem _ hy)) (sendW_p (hx x List.mem_cons_self) h)
    obtain ⟨a1, a2, a3, a4, a5, a6⟩ := a
    obtain ⟨b1, b2, b3, b4, b5, b6⟩ := b
    rw [a1] at b1 b5
    have e : (m.wires.length : Int) * ((x :: r).length : Int) = m.wires.length * r.length + m.wires.length := by
      rw [List.length_cons]
      show (m.wires.length : Int) * ((r.length : Int) + 1) = _
      rw [Int.mul_add, Int.mul_one]
    refine ⟨b1, b2.trans a2, b3.trans a3, b4.trans a4, ⟨by omega, ?_⟩, b6⟩
    rw [e]; omega
theorem tick_err {m : Module} (h : ¬ (tickV m).2 = 0) : (m.now = 1099511627776 ∨ 1099511627744 < m.lost) ∧ (tickV m).2 = 6 := by
  unfold tickV at h ⊢
  split
  · rename_i q; exact ⟨q, rfl⟩
  · rename_i q
    rw [if_neg q] at h
    split at h <;> exact absurd rfl h
theorem tick_go {m : Module} (h : (tickV m).2 = 0) : ¬ (m.now = 1099511627776 ∨ 1099511627744 < m.lost) := fun q => by
  unfold tickV at h
  rw [if_pos q] at h; cases h
theorem tick_ok {m : Module} (M : MOk m) (h : (tickV m).2 = 0) : MOk (tickV m).1 ∧ (tickV m).1.now = m.now + 1 ∧ (tickV m).1.table = m.table ∧ (tickV m).1.wires = m.wires ∧ (tickV m).1.parts.length = m.parts.length ∧ m.lost ≤ (tickV m).1.lost := by
  have g := tick_go h
  have hn := M.now
  have hl := M.lost
  unfold tickV
  rw [if_neg g]
  split
  · exact ⟨⟨M.t, M.lp, M.lw, M.p, M.w, ⟨by show 0 ≤ m.now + 1; omega, by show m.now + 1 ≤ _; omega⟩, M.lost⟩, rfl, rfl, rfl, rfl, Int.le_refl _⟩
  · rename_i hb
    have hb : partB m (ownerV m.table m.now).1 = true := by simpa using hb
    have hb2 := of_decide_eq_true hb
    generalize (ownerV m.table m.now).1 = i at hb2
    have hi : i.toNat < m.parts.length := by omega
    have P := prt_iff.1 (M.p (m.parts.getD i.toNat Dat.d0) (by rw [List.getD_eq_getElem?_getD, List.getElem?_eq_getElem hi]; exact List.getElem_mem hi))
    have hp : ∀ p ∈ m.parts.set i.toNat (ranP (m.parts.getD i.toNat Dat.d0)), POk p := fun p hp => by
      rcases List.mem_or_eq_of_mem_set hp with hp | rfl
      · exact prt_iff.1 (M.p p hp)
      · exact ranP_ok P
    obtain ⟨s1, s2, s3, s4, s5, s6⟩ := sends_ok (i := i) (out := outP (m.parts.getD i.toNat Dat.d0)) (m := ⟨m.table, m.parts.set i.toNat (ranP (m.parts.getD i.toNat Dat.d0)), m.wires, m.now + 1, m.lost⟩) (out_num P) hp
    have ol := @out_len (m.parts.getD i.toNat Dat.d0)
    have s4 : _ = m.parts.length := s4.trans (List.length_set ..)
    have lw := M.lw
    have bd : (m.wires.length : Int) * ((outP (m.parts.getD i.toNat Dat.d0)).length : Int) ≤ 32 := by
      rcases Nat.eq_zero_or_pos (outP (m.parts.getD i.toNat Dat.d0)).length with z | z
      · rw [z]; simp
      · rw [show (outP (m.parts.getD i.toNat Dat.d0)).length = 1 by omega]; omega
    dsimp only at s1 s2 s3 s5
    refine ⟨⟨by rw [s2]; exact M.t, by rw [s4]; exact M.lp, by rw [s1]; exact M.lw, fun p hp => prt_iff.2 (s6 p hp), by rw [s1, s4]; exact M.w, ?_, ?_⟩, s3, s2, s1, s4, s5.1⟩
    · rw [s3]; omega
    · exact ⟨Int.le_trans hl.1 s5.1, Int.le_trans s5.2 (by omega)⟩
theorem ticks_step {n : Nat} {m : Module} (h : (tickV m).2 = 0) : ticksV (n + 1) m = ticksV n (tickV m).1 := by rw [ticksV, if_pos h]
theorem ticks_bad {n : Nat} {m : Module} (h : ¬ (tickV m).2 = 0) : ticksV (n + 1) m = (zM, (tickV m).2) := by rw [ticksV, if_neg h]

end Go.Proofs.Ytbnpacdkllmblaa
