/- What comes out, whatever the numbers of its objects. -/
import Derived.Test.YtadjemhbfaonbaaAbsOpen
set_option linter.all false
namespace Go.Abs
open Go

def addAs (p : Nat × Nat) (as : As) : As := match fwd p.1 as with
  | some c => match Nat.beq c p.2 with
    | true => as
    | false => p :: as
  | none => p :: as

mutual
def al : AV → AV → As → As
  | .own j _, .own b _, as => addAs (j, b) as
  | .ptr j _, .ptr b _, as => addAs (j, b) as
  | .agg l, .agg m, as => alL l m as
  | .tup l, .tup m, as => alL l m as
  | _, _, as => as
def alL : List AV → List AV → As → As
  | x :: l, y :: m, as => alL l m (al x y as)
  | _, _, as => as
end

/-- What comes out says at least this, its objects numbered as here. -/
def outA (r0 : AV) (H0 : Hp) : Kont := fun r H _ =>
  let as := al r0 r []
  match okAs as with
  | true => Both (le (len H0) (ren as r) r0) (leH (selH as H 0 H0) H0)
  | false => Bad 410

section
variable {P : Program} {w : World} {M : Nat → Prop} {β : Nat → Option Nat} {cp : Nat → Nat} {h : Hp}

variable {f : FuncId} {A : List AV} {K : Kont}

variable {N : Nat}
mutual
theorem al_below : ∀ (x y : AV) (as : As), (∀ b ∈ ids x, b < N) → below' N as = true → below' N (al x y as) = true := by
  intro x y as hx ha
  have add : ∀ p : Nat × Nat, p.1 < N → below' N (addAs p as) = true := by
    intro p hp
    unfold addAs
    split
    · split
      · exact ha
      · simp only [below']; rw [blt_iff.2 hp]; exact ha
    · simp only [below']; rw [blt_iff.2 hp]; exact ha
  match x, y with
  | .own j _, y => cases y <;> first | exact ha | exact add _ (hx j (by simp [ids]))
  | .ptr j _, y => cases y <;> first | exact ha | exact add _ (hx j (by simp [ids]))
  | .agg l, y => cases y <;> first | exact ha | exact alL_below l _ as (fun b hb => hx b (by simpa [ids] using hb)) ha
  | .tup l, y => cases y <;> first | exact ha | exact alL_below l _ as (fun b hb => hx b (by simpa [ids] using hb)) ha
  | .any, _ => exact ha
  | .bc _, _ => exact ha
  | .b _, _ => exact ha
  | .i _ _, _ => exact ha
  | .s _, _ => exact ha
  | .nil, _ => exact ha
  | .con _, _ => exact ha
  | .sl _ _ _, _ => exact ha
  | .rp _, _ => exact ha
  | .fn _ _, _ => exact ha
  | .ept _ _ _ _, _ => exact ha
  | .vw _ _ _ _, _ => exact ha
  | .nn _ _, _ => exact ha
  | .ite _ _ _, _ => exact ha
theorem alL_below : ∀ (l m : List AV) (as : As), (∀ b ∈ idsL l, b < N) → below' N as = true → below' N (alL l m as) = true
  | [], _, as, _, ha => by simp [alL, ha]
  | x :: l, [], as, _, ha => by simp [alL, ha]
  | x :: l, y :: m, as, hx, ha => alL_below l m _ (fun b hb => hx b (by simp [idsL, hb])) (al_below x y as (fun b hb => hx b (by simp [idsL, hb])) ha)
end

def allBelow (N : Nat) : List Nat → Bool
  | [] => true
  | x :: r => match Nat.blt x N with | true => allBelow N r | false => false
theorem allBelow_iff : ∀ {l : List Nat}, allBelow N l = true → ∀ b ∈ l, b < N
  | [], _, b, hb => by simp at hb
  | x :: r, h, b, hb => by
    simp only [allBelow] at h
    split at h
    · rename_i q
      rcases List.mem_cons.1 hb with rfl | hb
      · exact blt_iff.1 q
      · exact allBelow_iff h b hb
    · cases h

theorem FnOk.out {r0 : AV} {H0 : Hp} (h : FnOk P f A [] (outA r0 H0)) (hi : allBelow (len H0) (ids r0) = true) (hK : K r0 H0 []) : FnOk P f A [] K := by
  intro w M β cp vs hh hA
  refine (h w M β cp vs hh hA).mono ?_
  rintro e w' ⟨v, r, H', kl, M', β', cp', rfl, ho, hh', hak, hrep⟩
  unfold outA at ho
  dsimp only at ho
  split at ho
  · rename_i hok
    cases ho with
    | mk h1 h2 =>
      rw [len_eq] at h1 hi
      have hN := below'_fwd (al_below (N := H0.length) r0 r [] (allBelow_iff hi) rfl)
      have hr := ren_rep (N := H0.length) hok hN r v hrep
      have hs := sel_heap (as := al r0 r []) (H0 := H0) hh' hok hN
      refine ⟨v, r0, H0, [], M', _, _, rfl, hK, leH_sound hs h2, ⟨hak.keep, fun b hb h00 => absurd (hh.out b (Nat.zero_le _)) h00, hak.ext, fun g hg => ?_⟩, le_sound _ _ _ _ hr h1⟩
      obtain ⟨b, o, hb1, hb2, hb3⟩ := hg
      unfold leH at h2
      have hb4 : reβ (al r0 r []) H0.length β' b = some g := by
        simp only [cut] at hb3
        split at hb3
        · exact hb3
        · cases hb3
      have hbl := (List.getElem?_eq_some_iff.1 hb1).1
      rcases leHs_get h2 b o hb1 with ⟨x, hx, hxo⟩ | ⟨hlen, _⟩
      · have hxl := leO_live hxo hb2
        obtain ⟨y, hy, rfl⟩ := selH_get H0 0 b x hx
        rw [Nat.zero_add] at hxl
        simp only [reβ, hbl, if_true] at hb4
        split at hb4
        · rename_i c hc
          refine hak.own g ⟨c, nth .dead H' c, ?_, ?_, hb4⟩
          · refine nth_some rfl ?_
            simp only [selO, hc] at hxl
            split at hxl
            · rename_i hq; rw [hq]; rfl
            · exact hxl
          · simp only [selO, hc] at hxl
            split at hxl
            · rename_i hq; rw [hq]; rfl
            · exact hxl
        · cases hb4
      · rw [selH_len] at hlen; omega
  · cases ho

end
end Go.Abs
namespace Go.Abs
open Go Go.RowKit
/-- A contract with one outcome, by numbers of its own. -/
theorem det_okA {P : Program} {f : FuncId} {d : Det} (h : ∀ A p r, d A = some (p, r) → p () → allBelow 0 (ids r) = true ∧ FnOk P f A [] (outA r [])) : PcOk P f (detPC d) := by
  intro A PK hp
  unfold detPC at hp
  split at hp
  · rename_i p r hd
    cases hp with
    | mk h1 h2 =>
      obtain ⟨h3, h4⟩ := h A p r hd h1
      exact h4.out h3 h2
  · cases hp
/-- A contract with one outcome that leaves one new object. -/
theorem det_okN {P : Program} {f : FuncId} {d : DetN} (h : ∀ A p r o, d A = some (p, r, o) → p () → FnOk P f A [] fun r' H _ => r' = r ∧ H = [o]) : PcOk P f (detNPC d) := by
  intro A PK hp
  unfold detNPC at hp
  split at hp
  · rename_i p r o hd
    cases hp with
    | mk h1 h2 =>
      refine (h A p r o hd h1).mono ?_
      rintro r' H kl ⟨rfl, rfl⟩
      exact h2
  · cases hp
theorem law_callsA {P : Program} {f : FuncId} {A : List AV} {args : Array Value} {W : World} (h : FnOk P f A [] (outA (.bc true) [])) (hA : RepL W (fun _ => False) (fun _ => none) (fun _ => 0) A args.toList) :
    Calls P f args W fun e W' => e = .returned (.bool true) ∧ Below W.heap.size W W' :=
  law_calls (h.out (K := outLe 0 (.bc true) [] []) rfl (.mk (.mk rfl) (.mk trivial rfl))) hA
end Go.Abs
namespace Go.Abs
open Go
/-- What a call tells, by a name of its own. -/
inductive Gen {α : Type} (x : Th α) (p : α → Prop) : Prop where | mk (h : ∀ r, r = x () → p r)
theorem Gen.out {α : Type} {x : Th α} {p : α → Prop} (h : Gen x p) : p (x ()) := by cases h with | mk h => exact h _ rfl

theorem val_sl {α : Type} [Dat α] (l : List α) (sz : Nat) : slV (.sl sz (fun _ => l.length) fun i => Dat.enc fun _ => l.getD (i ()) Dat.d0) = l := by
  simp only [slV, Dat.hdec]
  exact lst_getD _ _
theorem val_len {α : Type} [Dat α] {l : List α} {n : Nat} (sz : Nat) (h : n = l.length) : slV (.sl sz (fun _ => n) fun i => Dat.enc fun _ => l.getD (i ()) Dat.d0) = l := by subst h; exact val_sl l sz
theorem val_nil {α : Type} [Dat α] : slV (α := α) .nil = [] := rfl
theorem val_dropI {α : Type} [Dat α] (l : List α) (sz : Nat) (n : Int) (h0 : 0 ≤ n) (h : n ≤ l.length) : slV (.sl sz (fun _ => ((l.length : Int) - n).toNat) fun i => Dat.enc fun _ => l.getD (i () + n.toNat) Dat.d0) = l.drop n.toNat := by
  simp only [slV, Dat.hdec]
  rw [lst_drop l Dat.d0 n.toNat _ (by omega)]
  exact List.take_of_length_le (by rw [List.length_drop]; omega)
theorem val_take {α : Type} [Dat α] (l : List α) (sz n : Nat) (h : n ≤ l.length) : slV (.sl sz (fun _ => n) fun i => Dat.enc fun _ => l.getD (i ()) Dat.d0) = l.take n := by
  simp only [slV, Dat.hdec]
  exact lst_take _ _ _ h
theorem val_takeI {α : Type} [Dat α] (l : List α) (sz : Nat) (n : Int) (h0 : 0 ≤ n) (h : n ≤ l.length) : slV (.sl sz (fun _ => (n - 0).toNat) fun i => Dat.enc fun _ => l.getD (i () + Int.toNat 0) Dat.d0) = l.take n.toNat := by
  have e : (n - 0).toNat = n.toNat := by omega
  simp only [slV, Dat.hdec, e]
  exact lst_take _ _ _ (by omega)
theorem val_drop {α : Type} [Dat α] (l : List α) (sz n k : Nat) (h : k + n ≤ l.length) : slV (.sl sz (fun _ => n) fun i => Dat.enc fun _ => l.getD (i () + k) Dat.d0) = (l.drop k).take n := by
  simp only [slV, Dat.hdec]
  exact lst_drop _ _ _ _ h
theorem val_app {α : Type} [Dat α] (l m : List α) (sz n k : Nat) (hs : sz = Dat.sz α) (hk : k = l.length) (hn : n = k + m.length) : slV (α := α) (.sl sz (fun _ => n) fun j => rowL sz (fun _ => decide (j () < k)) (Dat.enc fun _ => l.getD (j ()) Dat.d0) (Dat.enc fun _ => m.getD (j () - k) Dat.d0)) = l ++ m := by
  subst hs hk hn
  simp only [slV]
  rw [← lst_app l m Dat.d0 _ rfl]
  refine lst_congr fun i hi => ?_
  rw [(Dat.hpick _ _ _ (Dat.hok _) (Dat.hok _)).2]
  simp only [Dat.hdec]
theorem val_snoc {α : Type} [Dat α] (l : List α) (cs : List AV) (sz n : Nat) (hs : sz = Dat.sz α) (hn : n = l.length + 1) (hc : Dat.ok α cs) : slV (α := α) (.sl sz (fun _ => n) fun j => rowL sz (fun _ => decide (j () < l.length)) (Dat.enc fun _ => l.getD (j ()) Dat.d0) cs) = l ++ [Dat.dec cs] := by
  subst hs hn
  simp only [slV]
  rw [← lst_snoc l (Dat.dec cs) Dat.d0 _ rfl]
  refine lst_congr fun i hi => ?_
  rw [(Dat.hpick _ _ _ (Dat.hok _) hc).2]
  simp only [Dat.hdec]
theorem ok_row {α : Type} [Dat α] {c : Th Bool} {l m : List AV} {sz : Nat} (hs : sz = Dat.sz α) (h1 : Dat.ok α l) (h2 : Dat.ok α m) : Dat.ok α (rowL sz c l m) := by subst hs; exact (Dat.hpick c l m h1 h2).1
end Go.Abs
