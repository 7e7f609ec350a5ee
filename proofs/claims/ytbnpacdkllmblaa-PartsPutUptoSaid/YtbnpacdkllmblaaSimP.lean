/- Parts, plain: two modules that are the same where it matters. -/
import Derived.Test.YtbnpacdkllmblaaFeedP
set_option linter.all false
namespace Go.Proofs.Ytbnpacdkllmblaa
open Go Go.Abs

structure Sim (F : List Bool) (a b : Module) : Prop where
  w : a.wires = b.wires
  now : a.now = b.now
  l : a.parts.length = b.parts.length
  p : ∀ j, F.getD j Dat.d0 = true → a.parts.getD j Dat.d0 = b.parts.getD j Dat.d0
theorem sendB_sim {F : List Bool} {a b : Module} (h : Sim F a b) (w : Wire) (n : Int) : Sim F (sendB a w n) (sendB b w n) := by
  refine ⟨by rw [sendB_w, sendB_w]; exact h.w, by rw [sendB_n, sendB_n]; exact h.now, by rw [sendB_l, sendB_l]; exact h.l, fun j hj => ?_⟩
  by_cases e : j = w.to.toNat
  · subst e
    have e2 := h.p _ hj
    unfold sendB
    rw [e2]
    split
    · show (a.parts.set _ _).getD _ _ = (b.parts.set _ _).getD _ _
      rw [setP_any, setP_any, h.l]
      split
      · rfl
      · exact e2
    · exact e2
  · have key : ∀ m : Module, (sendB m w n).parts.getD j Dat.d0 = m.parts.getD j Dat.d0 := fun m => by
      unfold sendB
      split
      · show (m.parts.set _ _).getD _ _ = _
        rw [setP_any, if_neg (fun z => e z.1)]
      · rfl
    rw [key, key]; exact h.p j hj
theorem sendW_sim {F : List Bool} {i : Int} {x : Emit} : ∀ {l : List Wire} {a b : Module}, Sim F a b → Sim F (sendW i x l a) (sendW i x l b)
  | [], _, _, h => h
  | w :: r, a, b, h => by
    rw [sendW, sendW]
    split
    · exact sendW_sim (sendB_sim h w x.n)
    · exact sendW_sim h
theorem sends_sim {F : List Bool} {i : Int} : ∀ {out : List Emit} {a b : Module}, Sim F a b → Sim F (sendsV i out a) (sendsV i out b)
  | [], _, _, h => h
  | x :: r, a, b, h => by rw [sendsV, sendsV, h.w]; exact sends_sim (sendW_sim h)
theorem sendB_out {F : List Bool} {m : Module} {w : Wire} {n : Int} (hF : F.getD w.to.toNat Dat.d0 = false) {j : Nat} (hj : F.getD j Dat.d0 = true) : (sendB m w n).parts.getD j Dat.d0 = m.parts.getD j Dat.d0 := by
  unfold sendB
  split
  · show (m.parts.set _ _).getD _ _ = _
    rw [setP_any, if_neg]
    rintro ⟨rfl, _⟩
    rw [hj] at hF; cases hF
  · rfl
theorem sendW_out {F : List Bool} {i : Int} {x : Emit} (hi : F.getD i.toNat Dat.d0 = false) : ∀ {l : List Wire} {m : Module}, FOk l F → (∀ j, F.getD j Dat.d0 = true → (sendW i x l m).parts.getD j Dat.d0 = m.parts.getD j Dat.d0) ∧ (sendW i x l m).wires = m.wires ∧ (sendW i x l m).now = m.now ∧ (sendW i x l m).parts.length = m.parts.length
  | [], m, _ => ⟨fun _ _ => rfl, rfl, rfl, rfl⟩
  | w :: r, m, h => by
    rw [sendW]
    have h2 : FOk r F := ⟨fun v hv => h.cl v (List.mem_cons_of_mem _ hv)⟩
    split
    · rename_i q
      have hw : F.getD w.to.toNat Dat.d0 = false := by
        cases e : F.getD w.to.toNat Dat.d0 with
        | false => rfl
        | true =>
          have := h.cl w List.mem_cons_self e
          rw [q.1, hi] at this; cases this
      obtain ⟨a1, a2, a3, a4⟩ := sendW_out (x := x) hi (m := sendB m w x.n) h2
      exact ⟨fun j hj => (a1 j hj).trans (sendB_out hw hj), a2.trans sendB_w, a3.trans sendB_n, a4.trans sendB_l⟩
    · exact sendW_out hi h2
theorem sends_out {F : List Bool} {i : Int} (hi : F.getD i.toNat Dat.d0 = false) : ∀ {out : List Emit} {m : Module}, FOk m.wires F → (∀ j, F.getD j Dat.d0 = true → (sendsV i out m).parts.getD j Dat.d0 = m.parts.getD j Dat.d0) ∧ (sendsV i out m).wires = m.wires ∧ (sendsV i out m).now = m.now ∧ (sendsV i out m).parts.length = m.parts.length
  | [], m, _ => ⟨fun _ _ => rfl, rfl, rfl, rfl⟩
  | x :: r, m, h => by
    rw [sendsV]
    obtain ⟨a1, a2, a3, a4⟩ := sendW_out (x := x) hi (m := m) h
    obtain ⟨b1, b2, b3, b4⟩ := sends_out hi (out := r) (m := sendW i x m.wires m) (by rw [a2]; exact h)
    exact ⟨fun j hj => (b1 j hj).trans (a1 j hj), b2.trans a2, b3.trans a3, b4.trans a4⟩
theorem tick_out {F : List Bool} {m : Module} (h : (tickV m).2 = 0) (hw : FOk m.wires F) (ho : partB m (ownerV m.table m.now).1 = true → F.getD (ownerV m.table m.now).1.toNat Dat.d0 = false) :
    (∀ j, F.getD j Dat.d0 = true → (tickV m).1.parts.getD j Dat.d0 = m.parts.getD j Dat.d0) ∧ (tickV m).1.wires = m.wires ∧ (tickV m).1.now = m.now + 1 ∧ (tickV m).1.parts.length = m.parts.length := by
  have g := tick_go h
  unfold tickV
  rw [if_neg g]
  split
  · exact ⟨fun _ _ => rfl, rfl, rfl, rfl⟩
  · rename_i hb
    have hb : partB m (ownerV m.table m.now).1 = true := by simpa using hb
    have hi := ho hb
    generalize (ownerV m.table m.now).1 = i at hi
    obtain ⟨a1, a2, a3, a4⟩ := sends_out hi (out := outP (m.parts.getD i.toNat Dat.d0)) (m := ⟨m.table, m.parts.set i.toNat (ranP (m.parts.getD i.toNat Dat.d0)), m.wires, m.now + 1, m.lost⟩) hw
    refine ⟨fun j hj => (a1 j hj).trans ?_, a2, a3, a4.trans (List.length_set ..)⟩
    show (m.parts.set _ _).getD _ _ = _
    rw [setP_any, if_neg]
    rintro ⟨rfl, _⟩
    rw [hj] at hi; cases hi
def OwnR (F : List Bool) (n : Nat) (ta tb : Table) : Prop := ∀ x, 0 ≤ x → x ≤ 1099511627776 → (ownerV tb x).1 = (ownerV ta x).1 ∨ ((ownerV tb x).1 = -1 ∧ F.getD (ownerV ta x).1.toNat Dat.d0 = false)
theorem tick_sim {F : List Bool} {a b : Module} (s : Sim F a b) (hn : 0 ≤ a.now ∧ a.now ≤ 1099511627776) (hw : FOk a.wires F) (ho : OwnR F a.parts.length a.table b.table) (ha : (tickV a).2 = 0) (hb : (tickV b).2 = 0) : Sim F (tickV a).1 (tickV b).1 := by
  by_cases hF : partB a (ownerV a.table a.now).1 = true → F.getD (ownerV a.table a.now).1.toNat Dat.d0 = false
  · obtain ⟨a1, a2, a3, a4⟩ := tick_out ha hw hF
    have hF2 : partB b (ownerV b.table b.now).1 = true → F.getD (ownerV b.table b.now).1.toNat Dat.d0 = false := fun q => by
      rcases ho a.now hn.1 hn.2 with e | ⟨e, _⟩
      · rw [← s.now, e] at q ⊢
        refine hF ?_
        have := of_decide_eq_true q
        exact decide_eq_true (by rw [s.l]; exact this)
      · rw [← s.now, e] at q
        have := of_decide_eq_true q
        omega
    obtain ⟨b1, b2, b3, b4⟩ := tick_out hb (by rw [← s.w]; exact hw) hF2
    exact ⟨by rw [a2, b2]; exact s.w, by rw [a3, b3, s.now], by rw [a4, b4]; exact s.l, fun j hj => (a1 j hj).trans ((s.p j hj).trans (b1 j hj).symm)⟩
  · have hF := Classical.not_imp.1 hF
    obtain ⟨q1, q2⟩ := hF
    have q2 : F.getD (ownerV a.table a.now).1.toNat Dat.d0 = true := by simpa using q2
    have e : (ownerV b.table b.now).1 = (ownerV a.table a.now).1 := by
      rw [← s.now]
      rcases ho a.now hn.1 hn.2 with e | ⟨_, e⟩
      · exact e
      · rw [q2] at e; cases e
    have ga := tick_go ha
    have gb := tick_go hb
    have q3 : partB b (ownerV a.table a.now).1 = true := decide_eq_true (by rw [← s.l]; exact of_decide_eq_true q1)
    unfold tickV
    rw [if_neg ga, if_neg gb, e, if_neg (by rw [q1]; decide), if_neg (by rw [q3]; decide)]
    generalize (ownerV a.table a.now).1 = i at q2
    show Sim F (sendsV _ _ _) (sendsV _ _ _)
    rw [s.p _ q2]
    refine sends_sim ⟨s.w, by show a.now + 1 = b.now + 1; rw [s.now], by show (List.set _ _ _).length = (List.set _ _ _).length; rw [List.length_set, List.length_set]; exact s.l, fun j hj => ?_⟩
    show (a.parts.set _ _).getD _ _ = (b.parts.set _ _).getD _ _
    rw [setP_any, setP_any, s.l]
    split
    · rfl
    · exact s.p j hj
theorem ticks_sim {F : List Bool} : ∀ {n : Nat} {a b : Module}, Sim F a b → MOk a → FOk a.wires F → OwnR F a.parts.length a.table b.table → MOk b → (ticksV n a).2 = 0 → (ticksV n b).2 = 0 → Sim F (ticksV n a).1 (ticksV n b).1
  | 0, _, _, s, _, _, _, _, _, _ => s
  | n + 1, a, b, s, Ma, hw, ho, Mb, ha, hb => by
    by_cases h1 : (tickV a).2 = 0
    · by_cases h2 : (tickV b).2 = 0
      · rw [ticks_step h1] at ha ⊢
        rw [ticks_step h2] at hb ⊢
        have s2 := tick_sim s Ma.now hw ho h1 h2
        obtain ⟨a1, a2, a3, a4, a5, a6⟩ := tick_ok Ma h1
        obtain ⟨b1, b2, b3, b4, b5, b6⟩ := tick_ok Mb h2
        exact ticks_sim s2 a1 (by rw [a4]; exact hw) (by rw [a5, a3, b3]; exact ho) b1 ha hb
      · rw [ticks_bad h2] at hb; exact absurd hb h2
    · rw [ticks_bad h1] at ha; exact absurd ha h1

end Go.Proofs.Ytbnpacdkllmblaa
