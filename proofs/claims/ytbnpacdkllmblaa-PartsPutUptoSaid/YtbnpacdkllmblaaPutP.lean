/- Parts, plain: what is put into a box. -/
import Derived.Test.YtbnpacdkllmblaaPutW
import Derived.Test.YtbnpacdkllmblaaApartP
set_option linter.all false
namespace Go.Proofs.Ytbnpacdkllmblaa
open Go Go.Abs

theorem put_ok {m : Module} {i : Int} {l : List Int} (h : (putV m i l).2 = 0) : mchkV m = 0 ∧ partB m i = true ∧ wideB l = false ∧ (m.parts.getD i.toNat Dat.d0).box.length + l.length ≤ 50 ∧
    putV m i l = (⟨m.table, m.parts.set i.toNat ⟨(m.parts.getD i.toNat Dat.d0).code, (m.parts.getD i.toNat Dat.d0).vm, (m.parts.getD i.toNat Dat.d0).box ++ l⟩, m.wires, m.now, m.lost⟩, 0) := by
  unfold putV at h ⊢
  by_cases h1 : mchkV m = 0
  · rw [if_neg (fun q => q h1)] at h ⊢
    by_cases h2 : partB m i = false
    · rw [if_pos h2] at h; cases h
    · rw [if_neg h2] at h ⊢
      by_cases h3 : wideB l = true
      · rw [if_pos h3] at h; cases h
      · rw [if_neg h3] at h ⊢
        by_cases h4 : 50 - (m.parts.getD i.toNat Dat.d0).box.length < l.length
        · rw [if_pos h4] at h; cases h
        · rw [if_neg h4]
          have hb := of_decide_eq_true (show partB m i = true by simpa using h2)
          have hbx := (prt_iff.1 ((mchk_iff.1 h1).p _ (getD_mem (show i.toNat < m.parts.length by omega) (d := Dat.d0)))).l
          exact ⟨h1, by simpa using h2, by simpa using h3, by omega, rfl⟩
  · rw [if_pos h1] at h; exact absurd h h1
theorem put_put {m : Module} {i : Int} {l k : List Int} (h : (putV m i l).2 = 0) (g : (putV (putV m i l).1 i k).2 = 0) : putV m i (l ++ k) = putV (putV m i l).1 i k := by
  obtain ⟨a1, a2, a3, a4, a5⟩ := put_ok h
  obtain ⟨b1, b2, b3, b4, b5⟩ := put_ok g
  have hb := of_decide_eq_true a2
  rw [b5]
  rw [a5] at b4 ⊢
  dsimp only at b4 ⊢
  rw [setP_any, if_pos ⟨rfl, by omega⟩] at b4 ⊢
  dsimp only at b4 ⊢
  rw [List.length_append] at b4
  unfold putV
  rw [if_neg (fun q => q a1), if_neg (by rw [a2]; decide), if_neg (by
    have e : wideB (l ++ k) = (wideB l || wideB k) := by unfold wideB; exact List.any_append
    rw [e, a3, b3]; decide), if_neg (by rw [List.length_append]; omega), List.set_set, List.append_assoc]
theorem feeds_at {m : Module} {k : Nat} (h : mchkV m = 0) (hk : k < m.parts.length) : (feedsV m k).2 = 0 := by
  unfold feedsV
  rw [if_neg (fun q => q h), if_neg (by rw [partB, decide_eq_true ⟨by omega, by omega⟩]; decide)]
theorem put_sim {m : Module} {i : Int} {l : List Int} {F : List Bool} (h : (putV m i l).2 = 0) (hF : F.getD i.toNat Dat.d0 = false) : Sim F m (putV m i l).1 ∧ (putV m i l).1.table = m.table ∧ (putV m i l).1.parts.length = m.parts.length := by
  obtain ⟨a1, a2, a3, a4, a5⟩ := put_ok h
  rw [a5]
  refine ⟨⟨rfl, rfl, (List.length_set ..).symm, fun j hj => ?_⟩, rfl, List.length_set ..⟩
  show _ = (m.parts.set _ _).getD _ _
  rw [setP_any, if_neg]
  rintro ⟨rfl, _⟩
  rw [hF] at hj; cases hj
theorem Sim.trans {F : List Bool} {a b c : Module} (h : Sim F a b) (g : Sim F b c) : Sim F a c := ⟨h.w.trans g.w, h.now.trans g.now, h.l.trans g.l, fun j hj => (h.p j hj).trans (g.p j hj)⟩
theorem put_run {m : Module} {i n : Int} {l k : List Int} {q : Nat} (h : (putV m i l).2 = 0) (g : (putV (putV m i l).1 i k).2 = 0) (hq : q < m.parts.length) (hF : (feedsV m q).1.getD i.toNat Dat.d0 = false)
    (hx : (runPV m n).2 = 0) (hy : (runPV (putV (putV m i l).1 i k).1 n).2 = 0) : (runPV m n).1.parts.getD q Dat.d0 = (runPV (putV (putV m i l).1 i k).1 n).1.parts.getD q Dat.d0 := by
  obtain ⟨s1, t1, _⟩ := put_sim h hF
  obtain ⟨s2, t2, _⟩ := put_sim g hF
  have hf := feeds_at (put_ok h).1 hq
  obtain ⟨M, _, _, FC, FI⟩ := feeds_ok hf
  refine (run_sim (s1.trans s2) FC ?_ hx hy).p q (by simpa using FI)
  rw [t2, t1]
  exact OwnR.refl
theorem put_mok {m : Module} {i : Int} {l : List Int} (h : (putV m i l).2 = 0) : MOk (putV m i l).1 := by
  obtain ⟨a1, a2, a3, a4, a5⟩ := put_ok h
  have M := mchk_iff.1 a1
  rw [a5]
  have hb := of_decide_eq_true a2
  have P := prt_iff.1 (M.p _ (getD_mem (show i.toNat < m.parts.length by omega) (d := Dat.d0)))
  refine ⟨M.t, by show (m.parts.set _ _).length ≤ 16; rw [List.length_set]; exact M.lp, M.lw, set_mem M.p (prt_iff.2 ⟨P.c, P.v, P.a, by show (_ ++ _ : List Int).length ≤ 50; rw [List.length_append]; omega, fun x hx => ?_⟩), fun w hw => ?_, M.now, M.lost⟩
  · rcases List.mem_append.1 hx with q | q
    · exact P.n x q
    · exact allN_iff.1 a3 x q
  · show wirB (m.parts.set _ _).length w = true
    rw [List.length_set]; exact M.w w hw
theorem put_pre (m : Module) (i : Int) (l : List Int) : mchkC_P (putV m i l).1 := by
  by_cases h : (putV m i l).2 = 0
  · exact ok_pre (put_mok h)
  · have : (putV m i l).1 = zM := by
      unfold putV at h ⊢
      split
      · rfl
      · split
        · rfl
        · split
          · rfl
          · split
            · rfl
            · rename_i q1 q2 q3 q4
              rw [if_neg q1, if_neg q2, if_neg q3, if_neg q4] at h
              exact absurd rfl h
    rw [this]; exact zM_pre
theorem put_len {m : Module} {i : Int} {l k : List Int} (h : (putV m i l).2 = 0) (g : (putV (putV m i l).1 i k).2 = 0) : (putV (putV m i l).1 i k).1.parts.length = m.parts.length := by
  obtain ⟨_, _, _, _, a5⟩ := put_ok h
  obtain ⟨_, _, _, _, b5⟩ := put_ok g
  rw [b5]
  show (List.set _ _ _).length = _
  rw [List.length_set, a5]
  show (List.set _ _ _).length = _
  rw [List.length_set]

end Go.Proofs.Ytbnpacdkllmblaa
