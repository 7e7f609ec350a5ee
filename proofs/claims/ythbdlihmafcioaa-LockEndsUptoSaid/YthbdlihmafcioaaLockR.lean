/- Locks, plain: what free acts keep. -/
import Derived.Test.YthbdlihmafcioaaLockQ
set_option linter.all false
namespace Go.Proofs.Ythbdlihmafcioaa
open Go Go.Abs

structure FrI (A : List Act) (tk : Bool) (k : Nat) (h : List Int) (runs : Bool) : Prop where
  hr : rgtR h runs (A.drop k) = true
  ht : tk = true → k < A.length ∧ (runs = false ∨ ¬ (A.getD k Dat.d0).kind = 3)
  hn : ∀ n ∈ h, 0 ≤ n ∧ n < 8
theorem rgt_some {h : List Int} {l : List Act} (hr : rgtR h false l = true) : 0 < l.length := by
  cases l with
  | nil => simp [rgtR] at hr
  | cons a r => exact Nat.succ_pos _
theorem mem_last {h : List Int} (h0 : 0 < h.length) : h.getD (h.length - 1) 0 ∈ h := by
  rw [List.getD_eq_getElem?_getD, List.getElem?_eq_getElem (by omega)]
  exact List.getElem_mem _
theorem drop_at {A : List Act} {k : Nat} (hk : k < A.length) : A.drop k = A.getD k Dat.d0 :: A.drop (k + 1) := drop_cons Dat.d0 hk
theorem FrI.drop {A : List Act} {tk : Bool} {k : Nat} {h : List Int} {runs : Bool} (x : FrI A tk k h runs) (hk : k < A.length) (h3 : (A.getD k Dat.d0).kind = 3) :
    0 < h.length ∧ (0 ≤ (A.getD k Dat.d0).n ∧ (A.getD k Dat.d0).n < 8) ∧ FrI A tk (k + 1) (h.take (h.length - 1)) runs := by
  have hr := x.hr
  rw [drop_at hk] at hr
  obtain ⟨r1, r2, r3⟩ := rgt_drop h3 hr
  refine ⟨r1, x.hn _ (by rw [← r2]; exact mem_last r1), r3, fun ht => ?_, fun n hn => x.hn n (List.mem_of_mem_take hn)⟩
  rcases (x.ht ht).2 with h0 | h0
  · subst h0
    have := rgt_some r3
    rw [List.length_drop] at this
    exact ⟨by omega, .inl rfl⟩
  · exact absurd h3 h0
theorem FrI.take {A : List Act} {tk : Bool} {k : Nat} {h : List Int} {runs : Bool} (x : FrI A tk k h runs) (hk : k < A.length) (h3 : ¬ (A.getD k Dat.d0).kind = 3) (h1 : ¬ (A.getD k Dat.d0).kind = 1) :
    (0 ≤ (A.getD k Dat.d0).n ∧ (A.getD k Dat.d0).n < 8) ∧ FrI A tk (k + 1) (h ++ [(A.getD k Dat.d0).n]) false := by
  have hr := x.hr
  rw [drop_at hk] at hr
  have h2 : (A.getD k Dat.d0).kind = 2 := by rcases rgt_kind hr with q | q | q; exact absurd q h1; exact q; exact absurd q h3
  obtain ⟨r1, r2, r3⟩ := rgt_take h2 hr
  refine ⟨⟨r1, r2⟩, r3, fun _ => ?_, fun n hn => ?_⟩
  · have := rgt_some r3
    rw [List.length_drop] at this
    exact ⟨by omega, .inl rfl⟩
  · rcases List.mem_append.1 hn with hn | hn
    · exact x.hn n hn
    · rw [List.mem_singleton.1 hn]; exact ⟨r1, r2⟩
theorem FrI.ran {A : List Act} {k : Nat} {h : List Int} {runs : Bool} (x : FrI A true k h runs) (h1 : (A.getD k Dat.d0).kind = 1) :
    (1 ≤ (A.getD k Dat.d0).n ∧ (A.getD k Dat.d0).n ≤ 100) ∧ FrI A false (k + 1) h true := by
  have hk := (x.ht rfl).1
  have hr := x.hr
  rw [drop_at hk] at hr
  obtain ⟨r1, r2, r3⟩ := rgt_run h1 hr
  exact ⟨⟨r1, r2⟩, r3, fun h => (by cases h), x.hn⟩
theorem FrI.next {A : List Act} {k : Nat} {h : List Int} {runs : Bool} (x : FrI A false k h runs) (hk : k < A.length) (h3 : ¬ (A.getD k Dat.d0).kind = 3) : FrI A true k h runs := ⟨x.hr, fun _ => ⟨hk, .inr h3⟩, x.hn⟩
structure HS where
  ws : List Wk
  o : List Int
  en : List Int
  clash : Int
def stepV (l : List Work) (cl : List Int) (t : Int) (x : HS) : Int × HS :=
  let b := nextR l x.ws cl t x.ws.length 0 (-1)
  if b < 0 then (-1, x) else
  let A := (l.getD b.toNat Dat.d0).acts
  let w := x.ws.getD b.toNat wk0
  let R := freeR b true (A.drop w.at_) w.at_ w.h x.o
  if R.1 = false then (-1, ⟨x.ws.set b.toNat ⟨R.2.1, w.ran, R.2.2.1⟩, R.2.2.2, x.en, x.clash + 1⟩)
  else if w.ran + 1 = (A.getD R.2.1 Dat.d0).n then
    let S := freeR b false (A.drop (R.2.1 + 1)) (R.2.1 + 1) R.2.2.1 R.2.2.2
    (b, ⟨x.ws.set b.toNat ⟨S.2.1, 0, S.2.2.1⟩, S.2.2.2, if S.2.1 = A.length then x.en.set b.toNat (t + 1) else x.en, x.clash⟩)
  else (b, ⟨x.ws.set b.toNat ⟨R.2.1, w.ran + 1, R.2.2.1⟩, R.2.2.2, x.en, x.clash⟩)

end Go.Proofs.Ythbdlihmafcioaa
