/- slices.Insert of texts: the contract's use. -/
import Derived.Test.YtebiaihhpflpgaaDoorStrs4
import Derived.Test.YtebiaihhpflpgaaDoorPreL
import Derived.Test.YtebiaihhpflpgaaDoorAbsG4
set_option linter.all false
namespace Go.Proofs.YtebiaihhpflpgaaDoor
open Go Go.Abs

theorem row_st {w : World} {M : Nat → Prop} {β : Nat → Option Nat} {cp : Nat → Nat} {b : Nat} {l : List ByteArray} (h0 : 0 < l.length) (O : ObjRel w M β cp b (vecO 9 fun _ => l)) : ∃ g, β b = some g ∧ M g ∧ RowS w g (cp b) l ∧ cp b ≤ maxLen := by
  rcases O with ⟨q, q2⟩ | ⟨g, cur, q1, q2, q3, q4, q5, q6, q7, q8, q9⟩
  · have q2 : l.length = 0 := q2
    omega
  · refine ⟨g, q1, q2, ⟨⟨cur, q3, by rw [q4]; exact Nat.mul_one _, fun j hj => ?_⟩, q6⟩, q7⟩
    have q := q9 j 0 _ hj rfl
    have q : RepC w M (.s fun _ => l.getD j Dat.d0) (cur.getD (j * 1 + 0) undef) := q
    rw [show j * 1 + 0 = j by omega] at q
    generalize cur.getD j undef = v at q ⊢
    cases q
    rfl
theorem own_st {w : World} {M : Nat → Prop} {β : Nat → Option Nat} {cp : Nat → Nat} {b g : Nat} {n : Nat} {v : Value} (h0 : 0 < n) (hb : β b = some g) (h : Rep w M β cp (.own b fun _ => n) v) : v = .slice (some ⟨g, 0, none⟩) n (cp b) := by
  cases h with
  | c h => cases h
  | own0 b m hn =>
    have hn : n = 0 := hn
    omega
  | own b m g2 h hn => rw [hb] at h; cases h; rfl
theorem ins_vc (l m : List ByteArray) (i : Nat) (hl : 0 < l.length) (hm : 0 < m.length) (hi : i ≤ l.length) (hbig : (l.length + m.length) * 16 ≤ 140737488355328) :
    FnOk Tryd.prog 13 [.own 0 fun _ => l.length, .i .i64 fun _ => (i : Int), .own 1 fun _ => m.length] [vecO 9 fun _ => l, vecO 9 fun _ => m]
      fun r H kl => r = .own 0 (fun _ => (insR l m i).length) ∧ H = [vecO 9 fun _ => insR l m i, vecO 9 fun _ => m] ∧ kl = [0] := by
  intro w M β cp vs hh hA
  obtain ⟨v0, v1, v2, hvs, hv0, hv1, hv2⟩ := repL_3 hA
  obtain ⟨g0, hb0, hM0, r0, hc0⟩ := row_st hl (hh.obj 0 _ rfl)
  obtain ⟨g1, hb1, hM1, r1, hc1⟩ := row_st hm (hh.obj 1 _ rfl)
  have e0 := own_st hl hb0 hv0
  have e1 := rep_i hv1
  have e2 := own_st hm hb1 hv2
  subst e0 e1 e2
  have hv : vs = #[.slice (some ⟨g0, 0, none⟩) l.length (cp 0), .int .i64 (i : Int), .slice (some ⟨g1, 0, none⟩) m.length (cp 1)] := by cases vs; simp_all
  subst hv
  have hne : g1 ≠ g0 := fun e => by
    have := hh.inj 1 0 _ _ g1 rfl rfl rfl rfl hb1 (by rw [hb0, e])
    cases this
  have hlt1 : g1 < w.heap.size := by
    obtain ⟨cur, q, -⟩ := r1.h
    exact (Array.getElem?_eq_some_iff.1 q).1
  have C : Calls Tryd.prog 13 #[.slice (some ⟨g0, 0, none⟩) l.length (cp 0), .int .i64 (i : Int), .slice (some ⟨g1, 0, none⟩) m.length (cp 1)] w fun e w' =>
      ∃ g' c', e = .returned (.slice (some ⟨g', 0, none⟩) (insR l m i).length c') ∧ (g' = g0 ∨ g' = w.heap.size) ∧ InsW w w' g' c' (insR l m i) := by
    rcases Nat.lt_or_ge i l.length with q | q
    · rcases Nat.lt_or_ge (cp 0) (l.length + m.length) with z | z
      · exact ins_mid r0 r1 hm q hbig z
      · exact ins_shift r0 r1 hne hm q hc0 z
    · have : i = l.length := by omega
      subst this
      rcases Nat.lt_or_ge (cp 0) (l.length + m.length) with z | z
      · exact ins_grow r0 r1 hm hbig z
      · exact ins_room r0 r1 hm hc0 z
  refine C.mono ?_
  rintro e w' ⟨g', c', rfl, hg, k⟩
  refine ins_end hh hb0 hM0 (fun g hg1 => ?_) (hg.imp id fun q => Nat.le_of_eq q.symm) k (by rw [insR_len hi]; omega)
  rw [hb1] at hg1
  cases hg1
  rcases hg with q | q
  · rw [q]; exact hne
  · omega
inductive InsC (A : List AV) (H : Hp) (K : Kont) : Prop where
  | mk (l m : List ByteArray) (i : Nat) (hl : 0 < l.length) (hm : 0 < m.length) (hi : i ≤ l.length) (hb : (l.length + m.length) * 16 ≤ 140737488355328) (h1 : H.length = 2)
    (h2 : leL 2 A [.own 0 fun _ => l.length, .i .i64 fun _ => (i : Int), .own 1 fun _ => m.length]) (h3 : leH H [vecO 9 fun _ => l, vecO 9 fun _ => m])
    (h4 : K (.own 0 fun _ => (insR l m i).length) [vecO 9 fun _ => insR l m i, vecO 9 fun _ => m] [0])
noncomputable def insC_K : Con := subCon InsC
theorem insC_ok {A : List AV} {H : Hp} {K : Kont} (hv : insC_K A H K) : FnOk Tryd.prog 13 A H K :=
  subCon_ok (fun {A H K} hv => by
    obtain ⟨l, m, i, hl, hm, hi, hb, h1, h2, h3, h4⟩ := hv
    exact preL (FnOk.mono (ins_vc l m i hl hm hi hb) fun r H kl hq => by obtain ⟨rfl, rfl, rfl⟩ := hq; exact h4) h1 h2 h3) hv

end Go.Proofs.YtebiaihhpflpgaaDoor
