/- Contracts, as they are used. -/
import Derived.Test.YtadjemhbfaonbaaAbsDraw4
set_option linter.all false
namespace Go.Abs
open Go

theorem nc (n : Nat) : @NatCast.natCast Int instNatCastInt n = (n : Int) := rfl

def below (n : Nat) : List Nat → List Nat
  | [] => []
  | x :: r => match Nat.blt x n with
    | true => x :: below n r
    | false => below n r
theorem below_zero : ∀ l : List Nat, below 0 l = []
  | [] => rfl
  | x :: r => by
    simp only [below]
    have : Nat.blt x 0 = false := by cases h : Nat.blt x 0 with | false => rfl | true => exact absurd (blt_iff.1 h) (Nat.not_lt_zero _)
    rw [this]
    exact below_zero r
theorem memN_below {n b : Nat} (hb : b < n) : ∀ {l : List Nat}, memN b l = true → memN b (below n l) = true
  | [], h => by simp [memN] at h
  | x :: l, h => by
    simp only [memN] at h
    simp only [below]
    split at h
    · rename_i q
      have q := beq_iff.1 q
      subst q
      rw [blt_iff.2 hb]
      simp [memN]
    · rename_i q
      split
      · simp only [memN]; rw [q]; exact memN_below hb h
      · exact memN_below hb h

/-- What comes out says at least this; 'n': how many objects were handed in. -/
def outLe (n : Nat) (r0 : AV) (H0 : Hp) (kl0 : List Nat) : Kont := fun r H kl => Both (le (len H0) r r0) (Both (leH H H0) (subN (below n kl) kl0 = true))

section
variable {P : Program} {f : FuncId} {A : List AV} {H : Hp} {K : Kont}

theorem FnOk.le {r0 : AV} {H0 : Hp} {kl0 : List Nat} (h : FnOk P f A H (outLe (len H) r0 H0 kl0)) (hl : Nat.ble (len H) (len H0) = true) (hK : K r0 H0 kl0) : FnOk P f A H K := by
  intro w M β cp vs hh hA
  refine (h w M β cp vs hh hA).mono ?_
  rintro e w' ⟨v, r, H', kl, M', β', cp', rfl, ho, hh', hak, hrep⟩
  cases ho with
  | mk h1 h2 =>
    cases h2 with
    | mk h2 h3 =>
      have hl := ble_iff.1 hl
      rw [len_eq, len_eq] at hl
      rw [len_eq] at h1
      refine ⟨v, r0, H0, kl0, M', cut H0.length β', cp', rfl, hK, leH_sound hh' h2, ⟨hak.keep, fun b hb h00 => ?_, hak.ext, fun g hg => ?_⟩, le_sound _ _ _ _ hrep h1⟩
      · have h6 : b < H.length := by
          rcases Nat.lt_or_ge b H.length with h6 | h6
          · exact h6
          · exact absurd (hh.out b h6) h00
        have hb' : memN b kl = false := by
          cases hm : memN b kl with
          | false => rfl
          | true => rw [subN_mem h3 (memN_below (by rw [len_eq]; exact h6) hm)] at hb; cases hb
        have h4 := hak.bk b hb' h00
        have h5 : b < H0.length := by omega
        exact ⟨by simp [cut, h5, h4.1], h4.2⟩
      · obtain ⟨b, o, hb1, hb2, hb3⟩ := hg
        unfold leH at h2
        have hb4 : β' b = some g := by
          simp only [cut] at hb3
          split at hb3
          · exact hb3
          · cases hb3
        rcases leHs_get h2 b o hb1 with ⟨x, hx, hxo⟩ | ⟨hlen, _⟩
        · exact hak.own g ⟨b, x, hx, leO_live hxo hb2, hb4⟩
        · rw [hh'.out b hlen] at hb4; cases hb4

/-- Arguments of which more is known. -/
theorem FnOk.pre {A' : List AV} (h : FnOk P f A' [] K) (hl : leL 0 A A') : FnOk P f A [] K := by
  intro w M β cp vs hh hA
  have hβ : cut 0 β = β := funext fun b => by simp [cut, hh.out b (Nat.zero_le _)]
  have := leL_sound 0 A A' _ hA hl
  rw [hβ] at this
  exact h w M β cp vs hh this

theorem FnOk.mono {K' : Kont} (h : FnOk P f A H K) (hK : ∀ r H kl, K r H kl → K' r H kl) : FnOk P f A H K' := by
  intro w M β cp vs hh hA
  refine (h w M β cp vs hh hA).mono ?_
  rintro e w' ⟨v, r, H', kl, M', β', cp', rfl, ho, rest⟩
  exact ⟨v, r, H', kl, M', β', cp', rfl, hK _ _ _ ho, rest⟩

/-- One of two outcomes, by a Bool. -/
inductive Alt (c : Th Bool) (K1 K2 : Kont) (r : AV) (H : Hp) (kl : List Nat) : Prop where
  | yes (h : c () = true) (hk : K1 r H kl)
  | no (h : c () = false) (hk : K2 r H kl)

theorem FnOk.alt {c : Th Bool} {r1 r2 : AV} {H1 H2 : Hp} {kl1 kl2 : List Nat} (h : FnOk P f A H (Alt c (outLe (len H) r1 H1 kl1) (outLe (len H) r2 H2 kl2))) (hl1 : Nat.ble (len H) (len H1) = true) (hl2 : Nat.ble (len H) (len H2) = true)
    (hK : splitB c (fun _ => K r1 H1 kl1) fun _ => K r2 H2 kl2) : FnOk P f A H K := by
  cases hK with
  | mk k1 k2 =>
    cases k1 with
    | mk k1 =>
      cases k2 with
      | mk k2 =>
        cases hc : c () with
        | true =>
          refine FnOk.le (h.mono fun r H kl ho => ?_) hl1 (k1 hc).out
          cases ho with
          | yes h hk => exact hk
          | no h hk => rw [hc] at h; cases h
        | false =>
          refine FnOk.le (h.mono fun r H kl ho => ?_) hl2 (k2 hc).out
          cases ho with
          | yes h hk => rw [hc] at h; cases h
          | no h hk => exact hk

/-- A contract with one outcome. -/
theorem det_ok {d : Det} (h : ∀ A p r, d A = some (p, r) → p () → FnOk P f A [] (outLe 0 r [] [])) : PcOk P f (detPC d) := by
  intro A PK hp
  unfold detPC at hp
  split at hp
  · rename_i p r hd
    cases hp with
    | mk h1 h2 => exact (h A p r hd h1).le rfl h2
  · cases hp

end
end Go.Abs
