/- strings.Builder's write and reading: contracts. -/
import Derived.Test.YtebiaihhpflpgaaDoorBld
import Derived.Test.YtebiaihhpflpgaaDoorStrs
import Derived.Test.YtebiaihhpflpgaaDoorAbsG4
import Derived.Shelf.Strings.Builder1
import Derived.Ground.NamesProg
set_option linter.all false
namespace Go.Proofs.YtebiaihhpflpgaaDoor
open Go Go.Abs

open Go.RowKit
def u8L (s : ByteArray) : List U8 := s.data.toList.map fun b => ⟨b.toNat⟩
theorem u8_len (s : ByteArray) : (u8L s).length = s.size := by
  unfold u8L
  rw [List.length_map]; exact (Lib.size_eq s).symm
def u8V (d : List U8) : List Value := d.map fun b => .int .u8 b.n
theorem u8V_str (s : ByteArray) : Lib.strCells s = u8V (u8L s) := by
  unfold u8V u8L Lib.strCells
  simp
theorem u8_app (a b : ByteArray) : u8L (a ++ b) = u8L a ++ u8L b := by
  unfold u8L
  simp
theorem Tryd.wrL : Lays.n166 Tryd.prog Tryd.joinL_ren := { Tryd.joinL with }
theorem Tryd.stL : Lays.n169 Tryd.prog Tryd.joinL_ren := { Tryd.joinL with }
theorem row_of {w : World} {M : Nat → Prop} {g c : Nat} {cur : Array Value} {d : List U8} (hc : w.heap[g]? = some (.cells cur 5 (0, 0))) (hs : cur.size = c * 1) (hn : d.length ≤ c) (hm : c ≤ maxLen)
    (hr : ∀ (i j : Nat) (x : AV), i < d.length → (Dat.enc fun _ => d.getD i Dat.d0)[j]? = some x → RepC w M x (cur.getD (i * 1 + j) undef)) : w.ownsRow 0 5 1 (.slice (some ⟨g, 0, none⟩) d.length c) d.length (u8V d) := by
  refine ⟨by unfold u8V; simp, .inr ⟨g, c, cur, rfl, Nat.zero_le _, hc, hn, hm, hs, ?_⟩⟩
  have hl : (cur.toList.take (d.length * 1)).length = d.length := by rw [List.length_take]; simp; omega
  refine List.ext_getElem (by rw [hl]; unfold u8V; simp) fun i h1 h2 => ?_
  have hi : i < d.length := by omega
  have q := hr i 0 _ hi rfl
  rw [show i * 1 + 0 = i by omega] at q
  have e : cur.getD i undef = (cur.toList.take (d.length * 1))[i] := by
    rw [List.getElem_take]
    have : i < cur.size := by omega
    simp [Array.getD, this]
  rw [e] at q
  generalize (cur.toList.take (d.length * 1))[i] = u at q ⊢
  cases q
  unfold u8V
  simp only [List.getD_eq_getElem?_getD, List.getElem?_eq_getElem hi, Option.getD_some]
  exact (List.getElem_map (f := fun b : U8 => Value.int .u8 b.n) (l := d) (i := i) (h := by simpa using hi)).symm
theorem vec_of {w : World} {M : Nat → Prop} {β : Nat → Option Nat} {cp : Nat → Nat} {b g c : Nat} {d : List U8} (hb : β b = some g) (hM : M g) (hcp : cp b = c) (h : w.ownsRow 0 5 1 (.slice (some ⟨g, 0, none⟩) d.length c) d.length (u8V d)) (h0 : 0 < d.length) :
    ObjRel w M β cp b (vecO 5 fun _ => d) := by
  rcases h.2 with ⟨q, -⟩ | ⟨g2, c2, cur, hv, -, hc, hn, hm, hs, ht⟩
  · cases q
  cases hv
  have hget : ∀ i, i < d.length → cur.getD i undef = .int .u8 (d.getD i Dat.d0).n := fun i hi => by
    have e : (cur.toList.take (d.length * 1))[i]? = (u8V d)[i]? := by rw [ht]
    rw [List.getElem?_take, if_pos (by omega)] at e
    have hlt : i < cur.size := by omega
    unfold u8V at e
    simp [hlt, hi] at e
    simp [Array.getD, hlt, e, List.getD_eq_getElem?_getD, hi]
  refine .inr ⟨g, cur, hb, hM, hc, by rw [hcp]; exact hs, ⟨fun k hk => ?_, fun i j h1 h2 h3 h4 => by cases h4⟩, by rw [hcp]; exact hn, by rw [hcp]; exact hm, fun _ _ => rfl, fun i j x hi hx => ?_⟩
  · have hk : k < d.length * 1 := hk
    rw [hget k (by omega)]; rfl
  · match j, hx with
    | 0, hx =>
      cases hx
      have hi : i < d.length := hi
      show RepC _ _ _ (cur.getD (i * 1 + 0) undef)
      rw [show i * 1 + 0 = i by omega, hget i hi]
      exact .i _ _
def bxO (n : Th Nat) : AObj := .blk [.ptr 0 0, .own 1 n]
def bdF : AObj := .fz (some 46) (fun _ => 2) fun j => [nth .any [.con fun _ => .pointer none, .nil] (j ())]
theorem wr_end {w w' : World} {M : Nat → Prop} {β : Nat → Option Nat} {cp : Nat → Nat} {H : Hp} {kl : List Nat} {gb g' c' : Nat} {T : TypeId} {x : ByteArray} {y : Value} {row : Option Nat} (hh : HeapRel w M β cp H) (hb0 : β 0 = some gb) (hMb : M gb) (hcm : cp 0 ≤ maxLen)
    (hB0 : Blks w β H gb) (hB1 : ∀ g, β 1 = some g → Blks w β H g ∧ M g) (hrow : ∀ g, row = some g → β 1 = some g) (hout : ∀ b, 2 ≤ b → β b = none) (hkl : ∀ b, memN b kl = false → β b ≠ none → b ≠ 1) (h0 : 0 < x.size)
    (k1 : w'.heap[gb]? = some (.cells #[.pointer (some ⟨gb, 0, none⟩), .slice (some ⟨g', 0, none⟩) x.size c'] T (0, 0))) (k2 : w'.ownsRow 0 5 1 (.slice (some ⟨g', 0, none⟩) x.size c') x.size (u8V (u8L x)))
    (k4 : g' ≠ gb) (hk5 : β 1 = some g' ∨ w.heap.size ≤ g') (k6 : Wrote w w' gb row) :
    ∃ v r H' kl' M' β' cp', Ending.returned (.tuple #[y, .nilIface]) = .returned v ∧ (r = AV.tup [.any, .any] ∧ H' = [bxO fun _ => x.size, vecO 5 fun _ => u8L x] ∧ kl' = kl) ∧ HeapRel w' M' β' cp' H' ∧ AK w M β cp H w' M' β' cp' H' kl' ∧ Rep w' M' β' cp' r v := by
  have hlt : g' < w'.heap.size := by
    rcases k2.2 with ⟨q, -⟩ | ⟨g2, c2, cur2, q, -, q2, -⟩
    · cases q
    · cases q; exact (Array.getElem?_eq_some_iff.1 q2).1
  have hle : x.size ≤ c' ∧ c' ≤ maxLen := by
    rcases k2.2 with ⟨q, -⟩ | ⟨g2, c2, cur2, q, -, -, q3, q4, -⟩
    · cases q
    · cases q; exact ⟨q3, q4⟩
  have hkeep : ∀ k, k < w.heap.size → ¬ M k → w'.heap[k]? = w.heap[k]? ∧ ¬ (M k ∨ k = g') := fun k hk hM => ⟨k6.block k hk (fun e => hM (e ▸ hMb)) (fun e => hM ((hB1 k (hrow k e)).2)), fun q => q.elim hM fun q => by
    rcases hk5 with e | e
    · exact hM (q ▸ (hB1 g' e).2)
    · omega⟩
  refine ⟨_, .tup [.any, .any], [bxO fun _ => x.size, vecO 5 fun _ => u8L x], kl, fun k => M k ∨ k = g', fun b => if b = 1 then some g' else β b, fun b => if b = 1 then c' else cp b, rfl, ⟨rfl, rfl, rfl⟩, ⟨fun b hb => ?_, fun b o hb => ?_, fun b b' o o' q q' k hb hb' _ _ hq hq' hf hf' => ?_, hh.dom.go hkeep fun k hk => hk.elim (fun q => Nat.lt_of_lt_of_le (hh.dom.lt k q) k6.size) fun q => q ▸ hlt⟩, ⟨hkeep, fun b hb h => ?_, ⟨k6.os, k6.tape, k6.output, k6.size, fun k hk hB => ?_, fun k _ _ h => .inl h, fun k h => h.elim .inl fun q => ?_⟩, fun k hk => ?_⟩, .c (.tup _ _ rfl fun j x hx => ?_)⟩
  · have hb : 2 ≤ b := hb
    rw [if_neg (by omega)]
    exact hout b hb
  · match b, hb with
    | 0, hb =>
      cases hb
      refine ⟨gb, _, T, hb0, .inl hMb, k1, ⟨rfl, fun j x hx => ?_⟩, ⟨?_, hcm⟩⟩
      · match j, hx with
        | 0, hx => cases hx; exact .ptr 0 0 gb hb0
        | 1, hx =>
          cases hx
          have := Rep.own (w := w') (M := fun k => M k ∨ k = g') (β := fun b => if b = 1 then some g' else β b) (cp := fun b => if b = 1 then c' else cp b) 1 (fun _ => x.size) g' rfl hle.1
          exact this
      · intro u hu
        simp at hu
        rcases hu with rfl | rfl <;> rfl
    | 1, hb =>
      cases hb
      refine vec_of (g := g') (c := c') rfl (.inr rfl) rfl ?_ (by rw [u8_len]; exact h0)
      rw [u8_len]; exact k2
  · have F : ∀ (c : Nat) (oc : AObj) (qc kc : Nat), [bxO fun _ => x.size, vecO 5 fun _ => u8L x][c]? = some oc → (if c = 1 then some g' else β c) = some qc → Foot w' qc oc kc → (c = 0 ∧ kc = gb) ∨ (c = 1 ∧ kc = g') := fun c oc qc kc h1 h2 h3 => by
      match c, h1 with
      | 0, h1 =>
        cases h1
        have h2 : β 0 = some qc := h2
        rw [hb0] at h2
        cases h2
        exact .inl ⟨rfl, h3.eq nofun⟩
      | 1, h1 =>
        cases h1
        have h2 : some g' = some qc := h2
        cases h2
        exact .inr ⟨rfl, h3.eq nofun⟩
    rcases F _ _ _ _ hb hq hf with ⟨a1, a2⟩ | ⟨a1, a2⟩ <;> rcases F _ _ _ _ hb' hq' hf' with ⟨b1, b2⟩ | ⟨b1, b2⟩ <;> omega
  · have hb1 := hkl b hb h
    exact ⟨if_neg hb1, if_neg hb1⟩
  · exact k6.block k hk (fun e => hB (e ▸ hB0)) fun e => hB (hB1 k (hrow k e)).1
  · rcases hk5 with e | e
    · exact .inl (q ▸ (hB1 g' e).2)
    · exact .inr (by omega)
  · obtain ⟨b, o, q, h1, h2, h3, h4⟩ := hk
    match b, h1 with
    | 0, h1 =>
      cases h1
      have h3 : β 0 = some q := h3
      have := h4.eq nofun
      subst this
      rw [hb0] at h3
      cases h3
      exact .inl hB0
    | 1, h1 =>
      cases h1
      have h3 : some g' = some q := h3
      cases h3
      have := h4.eq nofun
      subst this
      rcases hk5 with e | e
      · exact .inl (hB1 _ e).1
      · exact .inr e
  · match j, hx with
    | 0, hx => cases hx; exact .any _
    | 1, hx => cases hx; exact .any _
theorem ptr_of {w : World} {M : Nat → Prop} {β : Nat → Option Nat} {cp : Nat → Nat} {gb : Nat} {v : Value} (hb0 : β 0 = some gb) (h : Rep w M β cp (.ptr 0 0) v) : v = .pointer (some ⟨gb, 0, none⟩) := by
  cases h with
  | c h => cases h
  | ptr b o g h => rw [hb0] at h; cases h; rfl
theorem two_of {cur : Array Value} (h : cur.size = 2) : ∃ p v, cur = #[p, v] := by
  match cur, h with
  | ⟨[p, v]⟩, _ => exact ⟨p, v, rfl⟩
theorem sl_of {w' : World} {n g' : Nat} {v' : Value} {d : List Value} (k2 : w'.ownsRow 0 5 1 v' n d) (k3 : v'.ownBlock = some g') : ∃ c', v' = .slice (some ⟨g', 0, none⟩) n c' := by
  rcases k2.2 with ⟨q, -⟩ | ⟨g2, c2, cur2, q, -⟩
  · rw [q] at k3; cases k3
  · rw [q] at k3; cases k3; exact ⟨c2, q⟩
theorem wr_fresh (s : ByteArray) (h0 : 0 < s.size) (hlen : s.size ≤ 140737488355328) :
    FnOk Tryd.prog 17 [.ptr 0 0, .s fun _ => s] [bdF] fun r H kl => r = .tup [.any, .any] ∧ H = [bxO fun _ => s.size, vecO 5 fun _ => u8L s] ∧ kl = [] := by
  intro w M β cp vs hh hA
  obtain ⟨v0, v1, hvs, hv0, hv1⟩ := repL_2 hA
  obtain ⟨gb, cur, T, fr, hb0, hMb, hcb, ⟨rfl, rfl, hs2⟩, hokb, -, hrb⟩ : ObjRel w M β cp 0 bdF := hh.obj 0 _ rfl
  have e0 := ptr_of hb0 hv0
  have e1 := rep_s hv1
  subst e0 e1
  have hv : vs = #[.pointer (some ⟨gb, 0, none⟩), .string s] := by cases vs; simp_all
  subst hv
  obtain ⟨p, v, rfl⟩ := two_of hs2
  have q0 : RepC w M (.con fun _ => .pointer none) p := hrb 0 0 _ (by decide) rfl
  have q1 : RepC w M .nil v := hrb 1 0 _ (by decide) rfl
  have hp : p = .pointer none := by generalize p = u at q0; cases q0; rfl
  have hvn : v = .slice none 0 0 := by generalize v = u at q1; cases q1; rfl
  subst hp hvn
  refine (bld_write Tryd.wrL Tryd.joinX gb _ (.pointer none) (.slice none 0 0) [] s w (.inl ⟨rfl, rfl⟩) hcb ⟨rfl, .inl ⟨rfl, rfl⟩⟩ (by show none ≠ some gb; simp) h0 (by simpa using hlen)).mono ?_
  rintro e w' ⟨rfl, v', g', k1, k2, k3, k4, k5, k6⟩
  have k2 : w'.ownsRow 0 5 1 v' (0 + s.size) ([] ++ Lib.strCells s) := k2
  rw [Nat.zero_add, List.nil_append, u8V_str] at k2
  obtain ⟨c', rfl⟩ := sl_of k2 k3
  have n1 : ∀ b, 1 ≤ b → β b = none := fun b hb => hh.out b hb
  exact wr_end (row := none) hh hb0 hMb hokb.cm ⟨0, _, gb, rfl, rfl, hb0, .self _⟩ (fun g h => by rw [n1 1 (Nat.le_refl _)] at h; cases h) (fun g h => by cases h) (fun b hb => n1 b (by omega)) (fun b _ h => by rintro rfl; exact h (n1 1 (Nat.le_refl _))) h0 k1 k2 k4 (k5.imp (fun q => by cases q) id) k6
theorem wr_used (t s : ByteArray) (ht : 0 < t.size) (h0 : 0 < s.size) (hlen : t.size + s.size ≤ 140737488355328) :
    FnOk Tryd.prog 17 [.ptr 0 0, .s fun _ => s] [bxO fun _ => t.size, vecO 5 fun _ => u8L t] fun r H kl => r = .tup [.any, .any] ∧ H = [bxO fun _ => (t ++ s).size, vecO 5 fun _ => u8L (t ++ s)] ∧ kl = [1] := by
  intro w M β cp vs hh hA
  obtain ⟨v0, v1, hvs, hv0, hv1⟩ := repL_2 hA
  obtain ⟨gb, cur, T, hb0, hMb, hcb, hrb, hokb⟩ : ObjRel w M β cp 0 (bxO fun _ => t.size) := hh.obj 0 _ rfl
  have e0 := ptr_of hb0 hv0
  have e1 := rep_s hv1
  subst e0 e1
  have hv : vs = #[.pointer (some ⟨gb, 0, none⟩), .string s] := by cases vs; simp_all
  subst hv
  obtain ⟨p, v, rfl⟩ := two_of (by simpa using hrb.1)
  have hp : p = .pointer (some ⟨gb, 0, none⟩) := ptr_of hb0 (by have := hrb.2 0 _ rfl; simpa using this)
  have hvv : ∃ g, β 1 = some g ∧ t.size ≤ cp 1 ∧ v = .slice (some ⟨g, 0, none⟩) t.size (cp 1) := by
    have := hrb.2 1 _ rfl
    simp at this
    cases this with
    | c h => cases h
    | own0 b n hn =>
      have hn : t.size = 0 := hn
      omega
    | own b n g h hn => exact ⟨g, h, hn, rfl⟩
  obtain ⟨g, hb1, hcp, rfl⟩ := hvv
  subst hp
  have hne : g ≠ gb := fun e => by
    have := hh.inj 1 0 _ _ g rfl rfl rfl rfl hb1 (by rw [hb0, e])
    cases this
  have O1 : ObjRel w M β cp 1 (vecO 5 fun _ => u8L t) := hh.obj 1 _ rfl
  rcases O1 with ⟨q, -⟩ | ⟨g', c1, q, hM1, hc1, hs1, ho1, hn1, hm1, hl1, hr1⟩
  · rw [hb1] at q; cases q
  rw [hb1] at q
  cases q
  have row := row_of (d := u8L t) hc1 hs1 hn1 hm1 hr1
  rw [u8_len] at row
  have hbs : (u8V (u8L t)).length = t.size := by unfold u8V; rw [List.length_map, u8_len]
  refine (bld_write Tryd.wrL Tryd.joinX gb T (.pointer (some ⟨gb, 0, none⟩)) (.slice (some ⟨g, 0, none⟩) t.size (cp 1)) (u8V (u8L t)) s w (.inr rfl) hcb (by rw [hbs]; exact row) (by show some g ≠ some gb; simpa using hne) h0 (by rw [hbs]; exact hlen)).mono ?_
  rintro e w' ⟨rfl, v', g', k1, k2, k3, k4, k5, k6⟩
  rw [hbs] at k2
  have ksz : t.size + s.size = (t ++ s).size := by rw [ByteArray.size_append]
  rw [ksz, u8V_str, show u8V (u8L t) ++ u8V (u8L s) = u8V (u8L (t ++ s)) by unfold u8V; rw [u8_app, List.map_append]] at k2
  obtain ⟨c', rfl⟩ := sl_of k2 k3
  have B1 : Blks w β [bxO fun _ => t.size, vecO 5 fun _ => u8L t] g := ⟨1, _, g, rfl, rfl, hb1, .self _⟩
  refine wr_end (row := some g) hh hb0 hMb hokb.cm ⟨0, _, gb, rfl, rfl, hb0, .self _⟩ (fun q h => ?_) (fun q h => ?_) (fun b hb => hh.out b hb) (fun b hb _ => by rintro rfl; cases hb) (by omega) k1 k2 k4 (k5.imp (fun q => by cases q; exact hb1) id) k6
  · rw [hb1] at h; cases h; exact ⟨B1, hM1⟩
  · cases h; exact hb1
theorem st_end {w w' : World} {M : Nat → Prop} {β : Nat → Option Nat} {cp : Nat → Nat} {H : Hp} {gb : Nat} {x : ByteArray} {row : Option Nat} (hh : HeapRel w M β cp H) (hMb : M gb) (hB0 : Blks w β H gb) (hB1 : ∀ g, row = some g → Blks w β H g ∧ M g) (k6 : Wrote w w' gb row) :
    ∃ v r H' kl' M' β' cp', Ending.returned (.string x) = .returned v ∧ (r = AV.s (fun _ => x) ∧ H' = H.map (fun _ => .dead) ∧ kl' = []) ∧ HeapRel w' M' β' cp' H' ∧ AK w M β cp H w' M' β' cp' H' kl' ∧ Rep w' M' β' cp' r v := by
  have hkeep : ∀ k, k < w.heap.size → ¬ M k → w'.heap[k]? = w.heap[k]? ∧ ¬ M k := fun k hk hM => ⟨k6.block k hk (fun e => hM (e ▸ hMb)) (fun e => hM ((hB1 k e).2)), hM⟩
  have hd : ∀ (b : Nat) (o : AObj), (H.map fun _ => AObj.dead)[b]? = some o → o = .dead := fun b o h => by
    rw [List.getElem?_map, Option.map_eq_some_iff] at h
    obtain ⟨_, -, rfl⟩ := h
    rfl
  refine ⟨_, .s fun _ => x, H.map fun _ => .dead, [], M, β, cp, rfl, ⟨rfl, rfl, rfl⟩, ⟨fun b hb => hh.out b (by simpa using hb), fun b o hb => by rw [hd b o hb]; trivial, fun b b' o o' q q' k hb hb' hl _ _ _ _ _ => (by rw [hd b o hb] at hl; cases hl), hh.dom.go hkeep fun k hk => Nat.lt_of_lt_of_le (hh.dom.lt k hk) k6.size⟩, ⟨hkeep, fun b hb h => ⟨rfl, rfl⟩, ⟨k6.os, k6.tape, k6.output, k6.size, fun k hk hB => ?_, fun k _ _ h => h, fun k h => .inl h⟩, fun k hk => ?_⟩, .c (.s _)⟩
  · exact k6.block k hk (fun e => hB (e ▸ hB0)) fun e => hB (hB1 k e).1
  · obtain ⟨b, o, q, h1, h2, -⟩ := hk
    rw [hd b o h1] at h2
    cases h2
theorem st_fresh : FnOk Tryd.prog 19 [.ptr 0 0] [bdF] fun r H kl => r = .s (fun _ => ⟨#[]⟩) ∧ H = [.dead] ∧ kl = [] := by
  intro w M β cp vs hh hA
  obtain ⟨v0, hvs, hv0⟩ := repL_1 hA
  obtain ⟨gb, cur, T, fr, hb0, hMb, hcb, ⟨rfl, rfl, hs2⟩, hokb, -, hrb⟩ : ObjRel w M β cp 0 bdF := hh.obj 0 _ rfl
  have e0 := ptr_of hb0 hv0
  subst e0
  have hv : vs = #[.pointer (some ⟨gb, 0, none⟩)] := by cases vs; simp_all
  subst hv
  obtain ⟨p, v, rfl⟩ := two_of hs2
  have q1 : RepC w M .nil v := hrb 1 0 _ (by decide) rfl
  have hvn : v = .slice none 0 0 := by generalize v = u at q1; cases q1; rfl
  subst hvn
  refine (bld_none Tryd.stL Tryd.joinX gb p w hcb).mono ?_
  rintro e w' ⟨rfl, k6⟩
  exact st_end (row := none) hh hMb ⟨0, _, gb, rfl, rfl, hb0, .self _⟩ (fun g h => by cases h) k6
theorem st_used (t : ByteArray) (ht : 0 < t.size) : FnOk Tryd.prog 19 [.ptr 0 0] [bxO fun _ => t.size, vecO 5 fun _ => u8L t] fun r H kl => r = .s (fun _ => t) ∧ H = [.dead, .dead] ∧ kl = [] := by
  intro w M β cp vs hh hA
  obtain ⟨v0, hvs, hv0⟩ := repL_1 hA
  obtain ⟨gb, cur, T, hb0, hMb, hcb, hrb, hokb⟩ : ObjRel w M β cp 0 (bxO fun _ => t.size) := hh.obj 0 _ rfl
  have e0 := ptr_of hb0 hv0
  subst e0
  have hv : vs = #[.pointer (some ⟨gb, 0, none⟩)] := by cases vs; simp_all
  subst hv
  obtain ⟨p, v, rfl⟩ := two_of (by simpa using hrb.1)
  have hvv : ∃ g, β 1 = some g ∧ t.size ≤ cp 1 ∧ v = .slice (some ⟨g, 0, none⟩) t.size (cp 1) := by
    have := hrb.2 1 _ rfl
    simp at this
    cases this with
    | c h => cases h
    | own0 b n hn =>
      have hn : t.size = 0 := hn
      omega
    | own b n g h hn => exact ⟨g, h, hn, rfl⟩
  obtain ⟨g, hb1, hcp, rfl⟩ := hvv
  have O1 : ObjRel w M β cp 1 (vecO 5 fun _ => u8L t) := hh.obj 1 _ rfl
  rcases O1 with ⟨q, -⟩ | ⟨g', c1, q, hM1, hc1, hs1, ho1, hn1, hm1, hl1, hr1⟩
  · rw [hb1] at q; cases q
  rw [hb1] at q
  cases q
  have row := row_of (d := u8L t) hc1 hs1 hn1 hm1 hr1
  rw [u8_len] at row
  have hl : t.data.toList.length = t.size := (Lib.size_eq t).symm
  have hbc : Lib.byteCells t.data.toList = u8V (u8L t) := by unfold Lib.byteCells u8V u8L; simp
  refine (bld_text Tryd.stL Tryd.joinX gb p g (cp 1) t.data.toList w (fun e => by rw [e] at hl; simp at hl; omega) T (by rw [hl]; exact hcb) (by rw [hl, hbc]; exact row)).mono ?_
  rintro e w' ⟨rfl, k6⟩
  have et : (⟨t.data.toList.toArray⟩ : ByteArray) = t := by cases t; simp
  rw [et]
  exact st_end (row := some g) hh hMb ⟨0, _, gb, rfl, rfl, hb0, .self _⟩ (fun q h => by cases h; exact ⟨⟨1, _, g, rfl, rfl, hb1, .self _⟩, hM1⟩) k6

end Go.Proofs.YtebiaihhpflpgaaDoor
