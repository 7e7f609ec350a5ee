/- A function that is handed one own slice, and turns it: a contract, out of its walk over that one object. -/
import Derived.Test.YtadjemhbfaonbaaAbsFroz
set_option linter.all false
namespace Go.Abs
open Go

/-- What is asked, what stands there behind the call, what is told (none: nothing; some: so much of the slice), and whether the row may be another one behind it. -/
structure OwnS (α : Type) where
  pre : List AV → List α → Prop
  fin : List AV → List α → List α
  res : Option (List AV → List α → Nat)
  kl : Bool
  ne : Bool := false

def OwnS.out {α : Type} (S : OwnS α) (b : Nat) (rest : List AV) (d : List α) : AV := match S.res with
  | none => .tup []
  | some g => .own b fun _ => g rest d
def OwnS.arg {α : Type} (S : OwnS α) (d : List α) : AV := match S.ne with
  | true => .nn 0 fun _ => d.length
  | false => .own 0 fun _ => d.length
def OwnS.kls {α : Type} (S : OwnS α) (b : Nat) : List Nat := match S.kl with
  | true => [b]
  | false => []
def OwnS.hp {α : Type} (S : OwnS α) (b : Nat) (H : Hp) : Hp := match S.kl with
  | true => killHp b 0 H
  | false => H

def ownCon (α : Type) [Dat α] (e0 : Nat) (S : OwnS α) : Con := fun A H K => match A with
  | .own b n :: rest => match nth .dead H b, closedL rest with
    | .vec e sz m f, true => match Nat.beq e e0 with
      | true => Ob (fun _ => sz = Dat.sz α ∧ n () = m () ∧ (∀ i, i < n () → Dat.ok α (f fun _ => i)) ∧ S.pre rest (slV (α := α) (.sl sz n f)))
          (Gen (fun _ => slV (α := α) (.sl sz n f)) fun d => K (S.out b rest d) (S.hp b (H.set b (vecO e fun _ => S.fin rest d))) (S.kls b))
      | false => Bad 510
    | _, _ => Bad 511
  | _ => Bad 512

section
variable {P : Program} {α : Type} [Dat α]

theorem set_get {H : Hp} {b : Nat} {O : AObj} {c : Nat} {x : AObj} (hc : (H.set b O)[c]? = some x) : (c = b ∧ x = O) ∨ (c ≠ b ∧ H[c]? = some x) := by
  rw [List.getElem?_set] at hc
  split at hc
  · split at hc
    · exact .inl ⟨by omega, by cases hc; rfl⟩
    · cases hc
  · exact .inr ⟨by omega, hc⟩

theorem ownCon_ok {f : FuncId} {e0 : Nat} {S : OwnS α} (hne : ∀ rest d, S.ne = true → S.pre rest d → 0 < d.length) (hF : ∀ rest d, closedL rest = true → S.pre rest d → FnOk P f (S.arg d :: rest) [vecO e0 fun _ => d] (outLe 1 (S.out 0 rest d) [vecO e0 fun _ => S.fin rest d] (S.kls 0)))
    {A : List AV} {H : Hp} {K : Kont} (hv : ownCon α e0 S A H K) : FnOk P f A H K := by
  intro w M β cp vs hh hA
  unfold ownCon at hv
  split at hv
  case h_2 => cases hv
  rename_i b n rest
  split at hv
  case h_2 => cases hv
  rename_i e sz m g hb0 hcl
  split at hv
  case h_2 => cases hv
  rename_i qe
  have qe := beq_iff.1 qe
  subst qe
  cases hv with
  | mk hob hK =>
  obtain ⟨hsz, hnm, hok, hpre⟩ := hob
  have hK := hK.out
  subst hsz
  have hb := nth_some hb0 rfl
  generalize hd : slV (α := α) (.sl (Dat.sz α) n g) = d at hK hpre
  have hdl : d.length = n () := by rw [← hd]; exact lst_len _ _
  have hdg : ∀ i, i < n () → d.getD i Dat.d0 = Dat.dec (g fun _ => i) := fun i hi => by rw [← hd]; exact lst_get hi
  -- the object alone
  have hobj := hh.obj b _ hb
  have hgo : ∀ b' (o : AObj) g0, H[b']? = some o → o.live = true → β b' = some g0 → g0 < w.heap.size ∧ M g0 := fun b' o g0 h1 h2 h3 => blk_lt hh h1 h2 h3
  have h1obj : HeapRel w M (fun c => if c = 0 then β b else none) (fun _ => cp b) [vecO e fun _ => d] := by
    refine ⟨fun c hc => ?_, fun c o hc => ?_, fun c c' o o' g0 hc hc' _ _ _ _ => ?_, hh.dom⟩
    · have : c ≠ 0 := by simp at hc; omega
      simp [this]
    · cases c with
      | succ c => simp at hc
      | zero =>
        simp at hc
        subst hc
        rcases hobj with ⟨h1, h2⟩ | ⟨g0, cur, h1, h2, h3, h4, h5, h6, h7, h8, h9⟩
        · exact .inl ⟨by simpa using h1, by show d.length = 0; omega⟩
        · refine .inr ⟨g0, cur, by simpa using h1, h2, h3, h4, fun k hk => h5 k (by have hk : k < d.length * Dat.sz α := hk; rw [hdl, hnm] at hk; exact hk), by show d.length ≤ cp b; omega, h7, fun i hi => Dat.hlen _, fun i j x hi hj => ?_⟩
          have hi : i < n () := by have hi : i < d.length := hi; omega
          have hj' : j < Dat.sz α := by
            have := (List.getElem?_eq_some_iff.1 hj).1
            rwa [Dat.hlen] at this
          have hL : RepL w M (fun _ => none) (fun _ => 0) (g fun _ => i) ((List.range (Dat.sz α)).map fun j => cur.getD (i * Dat.sz α + j) undef) := ⟨by simp [h8 i (by omega)], fun j x hj => by
            have hjl := (List.getElem?_eq_some_iff.1 hj).1
            rw [h8 i (by omega)] at hjl
            have := h9 i j x (by omega) hj
            rw [List.getD_eq_getElem?_getD, List.getElem?_map, List.getElem?_range hjl]
            exact .c this⟩
          have hL2 := leL_sound 0 _ _ _ hL (Dat.hle _ (hok i hi))
          have hj3 : (Dat.enc fun _ => (Dat.dec (g fun _ => i) : α))[j]? = some x := by
            have hj : (Dat.enc fun _ => d.getD i Dat.d0)[j]? = some x := hj
            rwa [hdg i hi] at hj
          have h1 := closed_rep (hL2.2 j x hj3) (closedL_get (Dat.hclosed _) hj3)
          rw [List.getD_eq_getElem?_getD, List.getElem?_map, List.getElem?_range hj'] at h1
          exact h1
    · have e1 : c = 0 := by have := (List.getElem?_eq_some_iff.1 hc).1; simp at this; omega
      have e2 : c' = 0 := by have := (List.getElem?_eq_some_iff.1 hc').1; simp at this; omega
      omega
  have h1args : RepL w M (fun c => if c = 0 then β b else none) (fun _ => cp b) (S.arg d :: rest) vs.toList := by
    refine ⟨by have := hA.1; simpa using this, fun j x hj => ?_⟩
    cases j with
    | zero =>
      simp at hj
      subst hj
      unfold OwnS.arg
      split
      · rename_i hq
        have h0 := hne rest d hq hpre
        rcases rep_own (hA.2 0 _ rfl) with ⟨h1, hv0⟩ | ⟨g0, hg0, hn0, hv0⟩
        · omega
        · rw [hv0, ← hdl]; exact .nn (cp := fun _ => cp b) 0 _ g0 (by simpa using hg0) (by show d.length ≤ cp b; omega)
      · rcases rep_own (hA.2 0 _ rfl) with ⟨h0, hv0⟩ | ⟨g0, hg0, hn0, hv0⟩
        · rw [hv0]; exact .own0 0 _ (by show d.length = 0; omega)
        · rw [hv0, ← hdl]; exact .own (cp := fun _ => cp b) 0 _ g0 (by simpa using hg0) (by show d.length ≤ cp b; omega)
    | succ j => exact .c (closed_rep (hA.2 (j + 1) x (by simpa using hj)) (closedL_get hcl (by simpa using hj)))
  have hcall := FnOk.le (H := [vecO e fun _ => d]) (hF rest d hcl hpre) (K := fun r H kl => r = S.out 0 rest d ∧ H = [vecO e fun _ => S.fin rest d] ∧ kl = S.kls 0) rfl ⟨rfl, rfl, rfl⟩
  refine (hcall w M _ _ vs h1obj h1args).mono ?_
  rintro ex w' ⟨v, r, H', kl, M', β', cp', rfl, ⟨rfl, rfl, rfl⟩, hh', hak, hrep⟩
  let β2 : Nat → Option Nat := fun c => if c = b then β' 0 else β c
  let cp2 : Nat → Nat := fun c => if c = b then cp' 0 else cp c
  have hbl : b < H.length := (List.getElem?_eq_some_iff.1 hb).1
  have hβne : ∀ c, c ≠ b → β2 c = β c ∧ cp2 c = cp c := fun c hc => by simp [β2, cp2, hc]
  have hβb : β2 b = β' 0 ∧ cp2 b = cp' 0 := by simp [β2, cp2]
  have hkept : S.kl = false → β b ≠ none → β' 0 = β b ∧ cp' 0 = cp b := by
    intro hk hb0
    have := hak.bk 0 (by simp [OwnS.kls, hk, memN]) (by simpa using hb0)
    simpa using this
  have hother : ∀ c (x : AObj), c ≠ b → H[c]? = some x → x.live = true → ∀ g0, β c = some g0 → w'.heap[g0]? = w.heap[g0]? := by
    intro c x hc hx hl g0 hg0
    refine hak.ext.block g0 (hgo c x g0 hx hl hg0).1 ?_
    rintro ⟨c', o, hc', hl', hg'⟩
    have e1 : c' = 0 := by have := (List.getElem?_eq_some_iff.1 hc').1; simp at this; omega
    subst e1
    exact hc (hh.inj c b x _ g0 hx hb hl rfl hg0 (by simpa using hg'))
  have hnew : ∀ g0, β' 0 = some g0 → β b = some g0 ∨ w.heap.size ≤ g0 := by
    intro g0 hg0
    rcases hak.own g0 ⟨0, _, rfl, rfl, hg0⟩ with ⟨c', o, hc', hl', hg'⟩ | h
    · have e1 : c' = 0 := by have := (List.getElem?_eq_some_iff.1 hc').1; simp at this; omega
      subst e1
      exact .inl (by simpa using hg')
    · exact .inr h
  -- the heap, but for kills
  have hheap : ∀ (h2 : Hp), h2.length = H.length → (∀ c x, h2[c]? = some x → (c = b ∧ x = (vecO e fun _ => S.fin rest d)) ∨ (c ≠ b ∧ ∃ y, H[c]? = some y ∧ x.live = y.live ∧ (y.live = true → ObjRel w' M' β2 cp2 c x))) → HeapRel w' M' β2 cp2 h2 := by
    intro h2 hl2 hget
    refine ⟨fun c hc => ?_, fun c x hc => ?_, fun c c' x x' g0 hc hc' hlx hlx' hg1 hg2 => ?_, hh'.dom⟩
    · rw [(hβne c (by omega)).1]; exact hh.out c (by omega)
    · rcases hget c x hc with ⟨rfl, rfl⟩ | ⟨hne, y, hy, hly, hr⟩
      · have := hh'.obj 0 _ rfl
        rcases this with ⟨h1, h2⟩ | ⟨g0, cur, h1, h2, h3, h4, h5, h6, h7, h8, h9⟩
        · exact .inl ⟨by rw [hβb.1]; exact h1, h2⟩
        · exact .inr ⟨g0, cur, by rw [hβb.1]; exact h1, h2, h3, by rw [hβb.2]; exact h4, h5, by rw [hβb.2]; exact h6, by rw [hβb.2]; exact h7, h8, h9⟩
      · by_cases hlx : y.live = true
        · exact hr hlx
        · have : ¬ x.live = true := by rw [hly]; exact hlx
          cases x with
          | dead => trivial
          | blk _ => exact absurd rfl this
          | vec _ _ _ _ => exact absurd rfl this
    · have one : ∀ c x, h2[c]? = some x → x.live = true → β2 c = some g0 → (c = b ∧ β' 0 = some g0) ∨ (c ≠ b ∧ ∃ y, H[c]? = some y ∧ y.live = true ∧ β c = some g0) := by
        intro c x hc hlx hg
        rcases hget c x hc with ⟨rfl, rfl⟩ | ⟨hne, y, hy, hly, _⟩
        · exact .inl ⟨rfl, by rw [← hβb.1]; exact hg⟩
        · exact .inr ⟨hne, y, hy, by rw [← hly]; exact hlx, by rw [← (hβne c hne).1]; exact hg⟩
      rcases one c x hc hlx hg1 with ⟨a1, a2⟩ | ⟨a1, y, a2, a3, a4⟩ <;> rcases one c' x' hc' hlx' hg2 with ⟨b1, b2⟩ | ⟨b1, y', b2, b3, b4⟩
      · omega
      · rcases hnew g0 a2 with h | h
        · exact absurd (hh.inj c' b y' _ g0 b2 hb b3 rfl b4 h) b1
        · have := (hgo c' y' g0 b2 b3 b4).1; omega
      · rcases hnew g0 b2 with h | h
        · exact absurd (hh.inj c b y _ g0 a2 hb a3 rfl a4 h) a1
        · have := (hgo c y g0 a2 a3 a4).1; omega
      · exact hh.inj c c' y y' g0 a2 b2 a3 b3 a4 b4
  have hrep2 : Rep w' M' β2 cp2 (S.out b rest d) v := by
    unfold OwnS.out at hrep ⊢
    split at hrep
    · obtain ⟨cs, rfl, hL⟩ := rep_tup hrep
      exact .c (.tup [] cs (by simpa using hL.1) fun j x hj => by simp at hj)
    · rename_i q _
      rcases rep_own hrep with ⟨h0, rfl⟩ | ⟨g0, hg0, hn0, rfl⟩
      · exact .own0 b _ h0
      · rw [← hβb.2]
        exact .own b _ g0 (by rw [hβb.1]; exact hg0) (by rw [hβb.2]; exact hn0)
  have hext : Ext w M (Blks β H) w' M' := ⟨hak.ext.os, hak.ext.tape, hak.ext.output, hak.ext.size, fun k hk hB => hak.ext.block k hk (by
      rintro ⟨c', o, hc', hl', hg'⟩
      have e1 : c' = 0 := by have := (List.getElem?_eq_some_iff.1 hc').1; simp at this; omega
      subst e1
      exact hB ⟨b, _, hb, rfl, by simpa using hg'⟩), hak.ext.sub, hak.ext.new⟩
  have hobjs : S.kl = false → β b ≠ none → ∀ c x, c ≠ b → H[c]? = some x → x.live = true → ObjRel w' M' β2 cp2 c x := by
    intro hk hbn c x hc hx hl
    exact (hh.obj c x hx).keep hak.keep (fun c' hc' => by
      by_cases e1 : c' = b
      · subst e1; rw [hβb.1, hβb.2]; exact hkept hk hbn
      · exact hβne c' e1) (fun h0 => by rw [(hβne c hc).1]; exact h0) fun g0 hg0 => ⟨hother c x hc hx hl g0 hg0, hak.ext.sub g0⟩
  have hown : ∀ (h2 : Hp), (∀ c x, h2[c]? = some x → (c = b ∧ x = (vecO e fun _ => S.fin rest d)) ∨ (c ≠ b ∧ ∃ y, H[c]? = some y ∧ x.live = y.live)) → ∀ g0, Blks β2 h2 g0 → Blks β H g0 ∨ w.heap.size ≤ g0 := by
    rintro h2 hget g0 ⟨c, x, hc, hlx, hg⟩
    rcases hget c x hc with ⟨rfl, rfl⟩ | ⟨hne, y, hy, hly⟩
    · rw [hβb.1] at hg
      rcases hnew g0 hg with h | h
      · exact .inl ⟨_, _, hb, rfl, h⟩
      · exact .inr h
    · exact .inl ⟨c, y, hy, by rw [← hly]; exact hlx, by rw [← (hβne c hne).1]; exact hg⟩
  cases hkl : S.kl with
  | true =>
    have e1 : S.hp b (H.set b (vecO e fun _ => S.fin rest d)) = killHp b 0 (H.set b (vecO e fun _ => S.fin rest d)) := by simp [OwnS.hp, hkl]
    have e2 : S.kls b = [b] := by simp [OwnS.kls, hkl]
    rw [e1, e2] at hK
    have hget : ∀ c x, (killHp b 0 (H.set b (vecO e fun _ => S.fin rest d)))[c]? = some x → (c = b ∧ x = (vecO e fun _ => S.fin rest d)) ∨ (c ≠ b ∧ ∃ y, H[c]? = some y ∧ x = y.kill b) := by
      intro c x hc
      obtain ⟨y, hy, h1⟩ := killHp_get _ _ _ _ hc
      rw [Nat.zero_add] at h1
      rcases h1 with ⟨rfl, rfl⟩ | ⟨hne, rfl⟩
      · rcases set_get hy with ⟨_, h2⟩ | ⟨h2, _⟩
        · exact .inl ⟨rfl, h2⟩
        · exact absurd rfl h2
      · rcases set_get hy with ⟨h2, _⟩ | ⟨_, h2⟩
        · exact absurd h2 hne
        · exact .inr ⟨hne, y, h2, rfl⟩
    refine ⟨_, _, _, [b], M', β2, cp2, rfl, hK, hheap _ (by rw [killHp_len, List.length_set]) (fun c x hc => ?_), ⟨hak.keep, fun c hc h0 => hβne c (by rintro rfl; simp [memN] at hc), hext, hown _ fun c x hc => ?_⟩, hrep2⟩
    · rcases hget c x hc with h | ⟨hne, y, hy, rfl⟩
      · exact .inl h
      · refine .inr ⟨hne, y, hy, kill_live y, fun hl => ?_⟩
        have h1 : ObjRel w' M' β cp c y := (hh.obj c y hy).keep hak.keep (fun _ _ => ⟨rfl, rfl⟩) id fun g0 hg0 => ⟨hother c y hne hy hl g0 hg0, hak.ext.sub g0⟩
        exact objKill_rep hβne hne h1
    · rcases hget c x hc with h | ⟨hne, y, hy, rfl⟩
      · exact .inl h
      · exact .inr ⟨hne, y, hy, kill_live y⟩
  | false =>
    have e1 : S.hp b (H.set b (vecO e fun _ => S.fin rest d)) = H.set b (vecO e fun _ => S.fin rest d) := by simp [OwnS.hp, hkl]
    have e2 : S.kls b = [] := by simp [OwnS.kls, hkl]
    rw [e1, e2] at hK
    refine ⟨_, _, _, [], M', β2, cp2, rfl, hK, hheap _ (by rw [List.length_set]) (fun c x hc => ?_), ⟨hak.keep, fun c _ h0 => ?_, hext, hown _ fun c x hc => ?_⟩, hrep2⟩
    · rcases set_get hc with h | ⟨hne, hy⟩
      · exact .inl h
      · refine .inr ⟨hne, x, hy, rfl, fun hl => ?_⟩
        refine (hh.obj c x hy).keep hak.keep (fun c' hc' => ?_) (fun h0 => by rw [(hβne c hne).1]; exact h0) fun g0 hg0 => ⟨hother c x hne hy hl g0 hg0, hak.ext.sub g0⟩
        by_cases e3 : c' = b
        · subst e3; rw [hβb.1, hβb.2]; exact hkept hkl hc'
        · exact hβne c' e3
    · by_cases e3 : c = b
      · subst e3; rw [hβb.1, hβb.2]; exact hkept hkl h0
      · exact hβne c e3
    · rcases set_get hc with h | ⟨hne, hy⟩
      · exact .inl h
      · exact .inr ⟨hne, x, hy, rfl⟩
end
end Go.Abs
namespace Go.Abs
open Go
section
variable {α : Type} [Dat α]
/-- A list, of which so many at its begin and its end have changed places. -/
def revU (l : List α) (k : Nat) : List α := lst l.length fun i => if i < k ∨ l.length - k ≤ i then l.getD (l.length - 1 - i) Dat.d0 else l.getD i Dat.d0
theorem revU_len (l : List α) (k : Nat) : (revU l k).length = l.length := lst_len _ _
theorem revU_get {l : List α} {k i : Nat} (h : i < l.length) : (revU l k).getD i Dat.d0 = if i < k ∨ l.length - k ≤ i then l.getD (l.length - 1 - i) Dat.d0 else l.getD i Dat.d0 := lst_get h
theorem revU_zero (l : List α) : revU l 0 = l := by
  refine lst_eq (d := Dat.d0) rfl fun i hi => ?_
  rw [if_neg (by omega)]
theorem revU_done {l : List α} {k : Nat} (h : l.length ≤ 2 * k + 1) : revU l k = l.reverse := by
  refine lst_eq (d := Dat.d0) (by simp) fun i hi => ?_
  have e : l.reverse.getD i Dat.d0 = l.getD (l.length - 1 - i) Dat.d0 := by
    rw [List.getD_eq_getElem?_getD, List.getD_eq_getElem?_getD, List.getElem?_reverse hi]
  rw [e]
  by_cases h1 : i < k ∨ l.length - k ≤ i
  · rw [if_pos h1]
  · rw [if_neg h1]
    congr 1
    omega
theorem revU_step {l : List α} {k i : Nat} (h : k < l.length - 1 - k) (hi : i < l.length) : (revU l (k + 1)).getD i Dat.d0 = bif decide (i = l.length - 1 - k) then (revU l k).getD k Dat.d0 else bif decide (i = k) then (revU l k).getD (l.length - 1 - k) Dat.d0 else (revU l k).getD i Dat.d0 := by
  rw [revU_get hi, revU_get hi, revU_get (show k < l.length by omega), revU_get (show l.length - 1 - k < l.length by omega)]
  rw [if_neg (show ¬ (k < k ∨ l.length - k ≤ k) by omega), if_neg (show ¬ (l.length - 1 - k < k ∨ l.length - k ≤ l.length - 1 - k) by omega)]
  by_cases e1 : i = l.length - 1 - k
  · subst e1
    rw [if_pos (by omega)]
    simp only [decide_true, cond_true]
    congr 1
    omega
  · by_cases e2 : i = k
    · subst e2
      rw [if_pos (by omega)]
      simp [e1]
    · simp only [e1, e2, decide_false, cond_false]
      by_cases e3 : i < k ∨ l.length - k ≤ i
      · rw [if_pos (by omega), if_pos e3]
      · rw [if_neg (by omega), if_neg e3]
end
end Go.Abs
namespace Go.Abs
open Go
section
variable {α : Type} [Dat α]
/-- A row of which so many are laid. -/
def fillU (a : α) (k n : Nat) : List α := lst n fun i => if i < k then a else Dat.d0
theorem fillU_len (a : α) (k n : Nat) : (fillU a k n).length = n := lst_len _ _
theorem fillU_get {a : α} {k n i : Nat} (h : i < n) : (fillU a k n).getD i Dat.d0 = if i < k then a else Dat.d0 := lst_get h
theorem fillU_done (a : α) {k n : Nat} (h : n ≤ k) : fillU a k n = List.replicate n a := by
  refine lst_eq (d := Dat.d0) (by simp) fun i hi => ?_
  rw [if_pos (by omega), List.getD_eq_getElem?_getD, List.getElem?_replicate, if_pos hi]
  rfl
theorem fillU_step {a : α} {k m n i : Nat} (hm : m ≤ k) (hi : i < n) (hkn : k + m ≤ n) : (fillU a (k + m) n).getD i Dat.d0 = bif decide (k ≤ i ∧ i < k + m) then (fillU a k n).getD (i - k) Dat.d0 else (fillU a k n).getD i Dat.d0 := by
  rw [fillU_get hi, fillU_get hi, fillU_get (show i - k < n by omega)]
  by_cases h1 : k ≤ i ∧ i < k + m
  · rw [if_pos (by omega), if_pos (by omega)]; simp [h1]
  · simp only [h1, decide_false, cond_false]
    by_cases h2 : i < k
    · rw [if_pos (by omega), if_pos h2]
    · rw [if_neg (by omega), if_neg h2]
end
end Go.Abs
namespace Go.Abs
open Go
section
variable {α : Type} [Dat α]
/-- The same contract in a statement whose order is open. -/
def ownDet (α : Type) [Dat α] (e0 : Nat) (S : OwnS α) : DetO := fun n O rest => match O with
  | .vec e sz m g => match Nat.beq e e0, S.res with
    | true, some q => some (fun _ => sz = Dat.sz α ∧ n () = m () ∧ (∀ i, i < n () → Dat.ok α (g fun _ => i)) ∧ S.pre rest (slV (α := α) (.sl sz n g)),
        fun _ => q rest (slV (α := α) (.sl sz n g)), .vec e0 (Dat.sz α) (fun _ => (S.fin rest (slV (α := α) (.sl sz n g))).length) fun i => Dat.enc fun _ => (S.fin rest (slV (α := α) (.sl sz n g))).getD (i ()) Dat.d0)
    | _, _ => none
  | _ => none
theorem ownDet_ok {P : Program} {f : FuncId} {e0 : Nat} {S : OwnS α} (hne : ∀ rest d, S.ne = true → S.pre rest d → 0 < d.length) (hF : ∀ rest d, closedL rest = true → S.pre rest d → FnOk P f (S.arg d :: rest) [vecO e0 fun _ => d] (outLe 1 (S.out 0 rest d) [vecO e0 fun _ => S.fin rest d] (S.kls 0))) : DtOk P f (.o (ownDet α e0 S)) := by
  intro n e sz m g rest p N O hcl hd hp
  simp only [ownDet] at hd
  split at hd
  case h_2 => cases hd
  rename_i q qe hq
  cases hd
  refine ownCon_ok (α := α) (e0 := e0) (S := S) hne hF ?_
  unfold ownCon
  simp only [nth, hcl, qe]
  refine .mk hp (.mk fun d hdd => ?_)
  subst hdd
  have he := beq_iff.1 qe
  subst he
  refine ⟨?_, ?_⟩
  · simp only [OwnS.out, hq]
  · unfold OwnS.hp
    split <;> rfl
/-- A list less some of it in a row. -/
def delU (l : List α) (i j : Nat) : List α := l.take i ++ l.drop j
theorem delU_len {l : List α} {i j : Nat} (hi : i ≤ j) (hj : j ≤ l.length) : (delU l i j).length = i + (l.length - j) := by
  unfold delU; rw [List.length_append, List.length_take, List.length_drop]; omega
theorem delU_get {l : List α} {i j k : Nat} (hi : i ≤ j) (hj : j ≤ l.length) (hk : k < i + (l.length - j)) : (delU l i j).getD k Dat.d0 = bif decide (i ≤ k ∧ k < i + (l.length - j)) then l.getD (k - i + j) Dat.d0 else l.getD k Dat.d0 := by
  unfold delU
  have hl : (l.take i).length = i := by rw [List.length_take]; omega
  by_cases h : k < i
  · have hd : decide (i ≤ k ∧ k < i + (l.length - j)) = false := decide_eq_false (by omega)
    rw [hd, cond_false, List.getD_eq_getElem?_getD, List.getElem?_append_left (by omega), List.getElem?_take, if_pos h, List.getD_eq_getElem?_getD]
  · have hd : decide (i ≤ k ∧ k < i + (l.length - j)) = true := decide_eq_true (by omega)
    rw [hd, cond_true, List.getD_eq_getElem?_getD, List.getElem?_append_right (by omega), hl, List.getElem?_drop, List.getD_eq_getElem?_getD]
    congr 2
    omega
theorem delU_same (l : List α) (i : Nat) : delU l i i = l := List.take_append_drop i l
end
end Go.Abs
