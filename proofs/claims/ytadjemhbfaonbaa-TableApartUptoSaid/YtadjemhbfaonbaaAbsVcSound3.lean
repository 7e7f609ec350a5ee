/- What is to be proved of a piece of code is enough: appends. -/
import Derived.Test.YtadjemhbfaonbaaAbsVcSound2
import Derived.Lib.AppendStr
import Derived.Deep.AppendSrc
set_option linter.all false
namespace Go.Abs
open Go
section
variable {P : Program} {E : Env} {w w' : World} {M M' : Nat → Prop} {β β' : Nat → Option Nat} {cp cp' : Nat → Nat} {h h' : Hp} {o : Oper} {a : Act} {s : Tm}

/-- One operation, by whatever way: its value, and what it leaves. -/
def Good2 (P : Program) (o : Oper) (a : Act) (w : World) (M : Nat → Prop) (β : Nat → Option Nat) (cp : Nat → Nat) (h : Hp) (K : Kont) : Prop :=
  ∃ v' w' M' β' cp' v h' kl, (execOp a.eval o).run P w = .ok (.value v') w' ∧ K v h' kl ∧ HeapRel w' M' β' cp' h' ∧ AK w M β cp h w' M' β' cp' h' kl ∧ Rep w' M' β' cp' v v'

theorem src_sound {sz : Nat} (hsz : 0 < sz) (hh : HeapRel w M β cp h) {Y : AV} {y : Value} (hr : Rep w M β cp Y y) {q : Th Prop} {m : Th Nat} {g : Th Nat → List AV} (hs : src sz h Y = some (q, m, g)) (hq : q ()) :
    ∃ (ao : Option Addr) (c : Nat) (news : List Value), y = .slice ao (m ()) c ∧ news.length = m () * sz ∧ (m () = 0 ∨ ∃ ad, ao = some ad ∧ ∀ j u, news[j]? = some u → w.cell? (ad.add j) = some u) ∧
      (∀ u ∈ news, u.oneCell' = true) ∧ (∀ i : Nat, i < m () → (g fun _ => i).length = sz) ∧ ∀ (i j : Nat) (x : AV), i < m () → (g fun _ => i)[j]? = some x → RepC w M x (news.getD (i * sz + j) undef) := by
  unfold src at hs
  split at hs
  · rename_i sz' n f
    split at hs
    · rename_i q1
      have q1 := beq_iff.1 q1
      subst q1
      simp only [Option.some.injEq, Prod.mk.injEq] at hs
      obtain ⟨rfl, rfl, rfl⟩ := hs
      obtain ⟨ao, c, rfl, hnc, hcm, hrr⟩ := rep_sl hr
      by_cases h0 : n () = 0
      · exact ⟨ao, c, [], rfl, by simp [h0], .inl h0, by simp, fun i hi => by omega, fun i j x hi => by omega⟩
      · obtain ⟨ad, u, rfl, hM, hs, hlen, hcell, ho, hrep⟩ := hrr (by omega)
        have hdm : ∀ k, k < n () * sz → k / sz < n () ∧ k % sz < sz ∧ k / sz * sz + k % sz = k := fun k hk =>
          ⟨Nat.div_lt_of_lt_mul (by rw [Nat.mul_comm]; exact hk), Nat.mod_lt _ hsz, by rw [Nat.mul_comm]; exact Nat.div_add_mod k sz⟩
        refine ⟨some ad, c, (List.range (n () * sz)).map fun k => u (k / sz) (k % sz), rfl, by simp, .inr ⟨ad, rfl, fun j v hj => ?_⟩, fun v hv => ?_, hlen, fun i j x hi hj => ?_⟩
        · simp only [List.getElem?_map, Option.map_eq_some_iff] at hj
          obtain ⟨k, hk, rfl⟩ := hj
          have hk2 := List.getElem?_eq_some_iff.1 hk
          obtain ⟨hk3, hk4⟩ := hk2
          simp at hk3 hk4
          subst hk4
          obtain ⟨d1, d2, d3⟩ := hdm j hk3
          have := hcell (j / sz) (j % sz) d1 d2
          rwa [d3] at this
        · simp only [List.mem_map, List.mem_range] at hv
          obtain ⟨k, hk, rfl⟩ := hv
          obtain ⟨d1, d2, d3⟩ := hdm k hk
          exact ho _ _ d1 d2
        · have hjs : j < sz := by rw [← hlen i hi]; exact (List.getElem?_eq_some_iff.1 hj).1
          have hlt : i * sz + j < n () * sz := by
            have := Nat.mul_le_mul_right sz (show i + 1 ≤ n () by omega)
            rw [Nat.succ_mul] at this
            omega
          have e1 : (i * sz + j) / sz = i := by rw [Nat.add_comm, Nat.add_mul_div_right _ _ hsz, Nat.div_eq_of_lt hjs]; omega
          have e2 : (i * sz + j) % sz = j := by rw [Nat.mul_comm, Nat.mul_add_mod, Nat.mod_eq_of_lt hjs]
          have := hrep i j x hi hj
          simpa [List.getD_eq_getElem?_getD, hlt, e1, e2] using this
    · cases hs
  · rename_i b n
    split at hs
    · rename_i et sz' k f hb
      split at hs
      · rename_i q1
        have q1 := beq_iff.1 q1
        subst q1
        simp only [Option.some.injEq, Prod.mk.injEq] at hs
        obtain ⟨rfl, rfl, rfl⟩ := hs
        have hq : n () ≤ k () := hq
        rcases rep_own hr with ⟨h0, rfl⟩ | ⟨gg, hg, hn, rfl⟩
        · rw [h0]
          exact ⟨none, 0, [], rfl, by simp, .inl rfl, by simp, fun i hi => by omega, fun i j x hi => by omega⟩
        · rcases hh.obj b _ (nth_some hb rfl) with ⟨e1, _⟩ | ⟨g', cur, e1, e2, e3, e4, e5, e6, e7, e8, e9⟩
          · rw [hg] at e1; cases e1
          · rw [hg] at e1; cases e1
            have hle : n () * sz ≤ cur.size := by rw [e4]; exact Nat.mul_le_mul_right _ (by omega)
            have hle2 : n () * sz ≤ k () * sz := Nat.mul_le_mul_right _ hq
            refine ⟨some ⟨gg, 0, none⟩, cp b, cur.toList.take (n () * sz), rfl, by simp; omega, .inr ⟨_, rfl, fun j u hj => ?_⟩, fun v hv => ?_, fun i hi => e8 i (by omega), fun i j x hi hj => ?_⟩
            · rw [List.getElem?_take] at hj
              split at hj
              · rename_i hlt
                rw [addr_add, Nat.zero_add, cell_of_row e3 (by omega)]
                rw [Array.getElem?_toList] at hj
                rw [Array.getElem?_eq_getElem (by omega)] at hj
                exact hj
              · cases hj
            · obtain ⟨j, hj, rfl⟩ := List.mem_iff_getElem.1 hv
              have hj2 : j < n () * sz := by simp at hj; omega
              have := e5 j (by omega)
              simpa [show j < cur.size by omega] using this
            · have hjs : j < sz := by rw [← e8 i (by omega)]; exact (List.getElem?_eq_some_iff.1 hj).1
              have hlt : i * sz + j < n () * sz := by
                have := Nat.mul_le_mul_right sz (show i + 1 ≤ n () by omega)
                rw [Nat.succ_mul] at this
                omega
              have := e9 i j x (by omega) hj
              rw [List.getD_eq_getElem?_getD, List.getElem?_take, if_pos hlt, ← List.getD_eq_getElem?_getD, ← getD_arr]
              exact this
      · cases hs
    · cases hs
  · rename_i b sz'' p n
    split at hs
    · rename_i et sz' k f hb
      split at hs
      · rename_i q1 q2
        have q1 := beq_iff.1 q1
        have q2 := beq_iff.1 q2
        subst q1 q2
        simp only [Option.some.injEq, Prod.mk.injEq] at hs
        obtain ⟨rfl, rfl, rfl⟩ := hs
        have hq : p () + n () ≤ k () := hq
        rcases rep_vw hr with ⟨h0, ao, c, hc, rfl⟩ | ⟨gg, hg, hn, rfl⟩
        · rw [h0]
          exact ⟨ao, c, [], rfl, by simp, .inl rfl, by simp, fun i hi => by omega, fun i j x hi => by omega⟩
        · rcases hh.obj b _ (nth_some hb rfl) with ⟨e1, _⟩ | ⟨g', cur, e1, e2, e3, e4, e5, e6, e7, e8, e9⟩
          · rw [hg] at e1; cases e1
          · rw [hg] at e1; cases e1
            have hle : (p () + n ()) * sz ≤ cur.size := by rw [e4]; exact Nat.mul_le_mul_right _ (by omega)
            have hle2 : (p () + n ()) * sz ≤ k () * sz := Nat.mul_le_mul_right _ hq
            rw [Nat.add_mul] at hle hle2
            have hge : ∀ j, j < n () * sz → ((cur.toList.drop (p () * sz)).take (n () * sz))[j]? = cur[p () * sz + j]? := by
              intro j hj
              rw [List.getElem?_take, if_pos hj, List.getElem?_drop, Array.getElem?_toList]
            refine ⟨some ⟨gg, p () * sz, none⟩, cp b - p (), (cur.toList.drop (p () * sz)).take (n () * sz), rfl, by simp; omega, .inr ⟨_, rfl, fun j u hj => ?_⟩, fun v hv => ?_, fun i hi => e8 (i + p ()) (by omega), fun i j x hi hj => ?_⟩
            · have hj2 : j < n () * sz := by have := (List.getElem?_eq_some_iff.1 hj).1; simp at this; omega
              rw [hge j hj2] at hj
              rw [addr_add, cell_of_row e3 (by omega)]
              rw [Array.getElem?_eq_getElem (by omega)] at hj
              exact hj
            · obtain ⟨j, hj, rfl⟩ := List.mem_iff_getElem.1 hv
              have hj2 : j < n () * sz := by simp at hj; omega
              have h1 := hge j hj2
              rw [List.getElem?_eq_getElem hj, Array.getElem?_eq_getElem (by omega)] at h1
              have := e5 (p () * sz + j) (by omega)
              rw [Array.getD_eq_getD_getElem?, Array.getElem?_eq_getElem (by omega)] at this
              rw [Option.some.inj h1]
              simpa using this
            · have hjs : j < sz := by rw [← e8 _ (by omega : i + p () < k ())]; exact (List.getElem?_eq_some_iff.1 hj).1
              have hlt : i * sz + j < n () * sz := by
                have := Nat.mul_le_mul_right sz (show i + 1 ≤ n () by omega)
                rw [Nat.succ_mul] at this
                omega
              have := e9 (i + p ()) j x (by omega) hj
              rw [List.getD_eq_getElem?_getD, hge _ hlt]
              rwa [Array.getD_eq_getD_getElem?, show (i + p ()) * sz + j = p () * sz + (i * sz + j) by rw [Nat.add_mul]; omega] at this
      · cases hs
    · cases hs
  · simp only [Option.some.injEq, Prod.mk.injEq] at hs
    obtain ⟨rfl, rfl, rfl⟩ := hs
    exact ⟨none, 0, [], rep_nil hr, by simp, .inl rfl, by simp, fun i hi => absurd hi (Nat.not_lt_zero i), fun i j x hi => absurd hi (Nat.not_lt_zero i)⟩
  · cases hs

theorem run_append_nil (base : Nat) (t ty e : TypeId) (i : TypeInfo) (size : Nat) (ht : P.underlying t = some (.slice e)) (hi : P.info? e = some i)
    (v : Value) (n : Nat) (xs : List Value) (hown : w.ownsRow base e size v n xs) (c : Nat) : (Builtin.append_ #[t, t] ty #[v, .slice none 0 c]).run P w = .ok v w := by
  rcases hown.2 with ⟨rfl, rfl⟩ | ⟨g, cap, cur, rfl, _, _, hnc, _⟩
  · simp [Builtin.append_, run_underlying ht, sizeOf, typeInfo, hi, Builtin.lenOf, Builtin.firstCells]
  · simp [Builtin.append_, run_underlying ht, sizeOf, typeInfo, hi, Builtin.lenOf, Builtin.firstCells, hnc, storeCells]

/-- append, whatever the source. -/
theorem run_append_any {t ty e : TypeId} {sz bytes : Nat} {z : List AV} (hT : TyOk P t (.slice e sz bytes z)) (hz : z.length = sz) {v : Value} {n : Nat} {xs : List Value} (hown : w.ownsRow 0 e sz v n xs)
    {ao : Option Addr} {m c : Nat} {news : List Value} (hl : news.length = m * sz) (hc : m = 0 ∨ ∃ ad, ao = some ad ∧ ∀ j u, news[j]? = some u → w.cell? (ad.add j) = some u) (h1 : ∀ u ∈ news, u.oneCell' = true)
    (h63 : n + m ≤ maxLen) (hb : (n + m) * bytes ≤ 140737488355328) :
    ∃ v' w', (Builtin.append_ #[t, t] ty #[v, .slice ao m c]).run P w = .ok v' w' ∧ w'.ownsRow 0 e sz v' (n + m) (xs ++ news) ∧ w.grownBy w' v.ownBlock ∧ (v'.ownBlock = v.ownBlock ∨ v'.ownBlock = some w.heap.size) := by
  obtain ⟨hu, hsz, _, hi, hby, _⟩ := hT
  obtain ⟨i, i1, i2, zv, i3, i4, _⟩ := hi
  have ib : i.bytes = bytes := by rw [i1] at hby; simpa using hby
  have hzs : zv.cells.size = sz := by rw [← hz, ← i4]; simp
  have some_ : ∀ ad : Addr, ao = some ad → (∀ j u, news[j]? = some u → w.cell? (ad.add j) = some u) → ∃ v' w', (Builtin.append_ #[t, t] ty #[v, .slice ao m c]).run P w = .ok v' w' ∧ w'.ownsRow 0 e sz v' (n + m) (xs ++ news) ∧ w.grownBy w' v.ownBlock ∧ (v'.ownBlock = v.ownBlock ∨ v'.ownBlock = some w.heap.size) := by
    rintro ad rfl hcell
    obtain ⟨v', w', r1, r2, r3, _, r5⟩ := run_append_own_at (P := P) w 0 t ty e i zv sz bytes hu i1 i3 i2 ib hzs hsz v n xs hown ad m c news hl hcell h1 h63 hb (Nat.zero_le _)
    exact ⟨v', w', r1, r2, r3, r5⟩
  rcases hc with rfl | ⟨ad, ha, hcell⟩
  · have hn : news = [] := List.eq_nil_of_length_eq_zero (by simpa using hl)
    subst hn
    cases ao with
    | none => exact ⟨v, w, run_append_nil 0 t ty e i sz hu i1 v n xs hown c, by simpa using hown, ⟨rfl, rfl, rfl, Nat.le_refl _, fun _ _ _ => rfl⟩, .inl rfl⟩
    | some ad => exact some_ ad rfl (fun j u hj => by simp at hj)
  · exact some_ ad ha hcell

theorem rowL_len : ∀ (sz : Nat) (c : Th Bool) (l m : List AV), (rowL sz c l m).length = sz
  | 0, _, _, _ => rfl
  | n + 1, c, l, m => by simp [rowL, rowL_len n]
theorem rowL_get : ∀ (sz : Nat) (c : Th Bool) (l m : List AV) (j : Nat) (x : AV), (rowL sz c l m)[j]? = some x → j < sz ∧ x = AV.pick c (l.getD j .any) (m.getD j .any)
  | 0, _, _, _, _, _, h => by simp [rowL] at h
  | n + 1, c, l, m, 0, x, h => by simp [rowL, nth_eq] at h; exact ⟨by omega, by rw [← h]; simp [List.getD_eq_getElem?_getD]⟩
  | n + 1, c, l, m, j + 1, x, h => by
    have := rowL_get n c (dropN 1 l) (dropN 1 m) j x (by simpa [rowL] using h)
    refine ⟨by omega, this.2.trans ?_⟩
    simp [dropN_eq, List.getD_eq_getElem?_getD]

/-- The row that an append leaves, as an object. -/
theorem obj_of_row {e : TypeId} {sz N : Nat} {v' : Value} {xs : List Value} (hown : w'.ownsRow 0 e sz v' N xs) (hM' : ∀ k, v'.ownBlock = some k → M' k) {b : Nat} (hβ : β' b = v'.ownBlock)
    (hcp : ∀ ad n c, v' = .slice (some ad) n c → cp' b = c) (h1 : ∀ u ∈ xs, u.oneCell' = true) {F : Th Nat → List AV} (hlen : ∀ i : Nat, i < N → (F fun _ => i).length = sz)
    (hF : ∀ (i j : Nat) (x : AV), i < N → (F fun _ => i)[j]? = some x → RepC w' M' x (xs.getD (i * sz + j) undef)) {n : Th Nat} (hn : n () = N) :
    ObjRel w' M' β' cp' b (.vec e sz n F) ∧ Rep w' M' β' cp' (.own b n) v' := by
  obtain ⟨hxl, hv⟩ := hown
  rcases hv with ⟨rfl, h0⟩ | ⟨g, cap, cur, rfl, _, hg, hnc, hcm, hcs, htake⟩
  · exact ⟨.inl ⟨by rw [hβ]; rfl, by omega⟩, .own0 b n (by omega)⟩
  · have hc := hcp _ _ _ rfl
    have hb : β' b = some g := by rw [hβ]; rfl
    subst hn
    refine ⟨.inr ⟨g, cur, hb, hM' g rfl, hg, by rw [hc]; exact hcs, fun k hk => ?_, by omega, by omega, hlen, fun i j x hi hj => ?_⟩, ?_⟩
    · have : cur.getD k undef = xs.getD k undef := by
        rw [getD_arr, ← htake, List.getD_eq_getElem?_getD, List.getD_eq_getElem?_getD, List.getElem?_take, if_pos hk]
      rw [this, List.getD_eq_getElem?_getD, List.getElem?_eq_getElem (by omega)]
      exact h1 _ (List.getElem_mem _)
    · have hjs : j < sz := by rw [← hlen i hi]; exact (List.getElem?_eq_some_iff.1 hj).1
      have hlt : i * sz + j < n () * sz := by
        have := Nat.mul_le_mul_right sz (show i + 1 ≤ n () by omega)
        rw [Nat.succ_mul] at this
        omega
      have := hF i j x hi hj
      rw [← htake, List.getD_eq_getElem?_getD, List.getElem?_take, if_pos hlt, ← List.getD_eq_getElem?_getD, ← getD_arr] at this
      exact this
    · rw [← hc]
      exact .own b n g hb (by omega)


theorem killHp_get {b : Nat} : ∀ (h : Hp) (n c : Nat) (o : AObj), (killHp b n h)[c]? = some o → ∃ x, h[c]? = some x ∧ (n + c = b ∧ o = x ∨ n + c ≠ b ∧ o = x.kill b)
  | [], _, _, _, hc => by simp [killHp] at hc
  | x :: r, n, 0, o, hc => by
    simp only [killHp, List.getElem?_cons_zero, Option.some.injEq] at hc
    refine ⟨x, rfl, ?_⟩
    split at hc
    · rename_i q; exact .inl ⟨by have := beq_iff.1 q; omega, hc.symm⟩
    · rename_i q; exact .inr ⟨fun e => (by rw [beq_iff.2 (show n = b by omega)] at q; cases q), hc.symm⟩
  | x :: r, n, c + 1, o, hc => by
    simp only [killHp, List.getElem?_cons_succ] at hc
    obtain ⟨y, hy, h1⟩ := killHp_get r (n + 1) c o hc
    exact ⟨y, by simpa using hy, by rw [show n + (c + 1) = n + 1 + c by omega]; exact h1⟩
theorem killHp_len {b : Nat} : ∀ (h : Hp) (n : Nat), (killHp b n h).length = h.length
  | [], _ => rfl
  | x :: r, n => by simp [killHp, killHp_len r]
theorem kill_live {b : Nat} (x : AObj) : (x.kill b).live = x.live := by cases x <;> rfl

theorem objKill_rep {b c : Nat} (hβ : ∀ c, c ≠ b → β' c = β c ∧ cp' c = cp c) (hc : c ≠ b) {x : AObj} (hr : ObjRel w M β cp c x) : ObjRel w M β' cp' c (x.kill b) := by
  cases x with
  | dead => trivial
  | blk cs =>
    obtain ⟨g, cur, t, h1, h2, h3, h4, h5⟩ := hr
    exact ⟨g, cur, t, (hβ c hc).1.trans h1, h2, h3, killL_rep b hβ _ _ h4, h5⟩
  | vec e sz n f =>
    rcases hr with ⟨h1, h2⟩ | ⟨g, cur, h1, h2, h3, h4, h5, h6, h7, h8⟩
    · exact .inl ⟨(hβ c hc).1.trans h1, h2⟩
    · exact .inr ⟨g, cur, (hβ c hc).1.trans h1, h2, h3, by rw [(hβ c hc).2]; exact h4, h5, by rw [(hβ c hc).2]; exact h6, by rw [(hβ c hc).2]; exact h7, h8⟩

theorem objRel_kept {c : Nat} {x : AObj} (hr : ObjRel w M β cp c x) (hw : ∀ k, k < w.heap.size → ¬ M k → w'.heap[k]? = w.heap[k]? ∧ ¬ M' k) (hg : ∀ g, β c = some g → w'.heap[g]? = w.heap[g]? ∧ (M g → M' g)) :
    ObjRel w' M' β cp c x := hr.keep hw (fun _ _ => ⟨rfl, rfl⟩) id hg

theorem capOf (v : Value) : ∃ c, ∀ ad n c', v = .slice (some ad) n c' → c = c' := by
  cases v with
  | slice a n c => exact ⟨c, fun _ _ _ h => by injection h⟩
  | _ => exact ⟨0, fun _ _ _ h => by cases h⟩

theorem blk_lt (hh : HeapRel w M β cp h) {b : Nat} {o : AObj} {g : Nat} (hb : h[b]? = some o) (ho : o.live = true) (hg : β b = some g) : g < w.heap.size ∧ M g := by
  have h1 := hh.obj b o hb
  cases o with
  | dead => cases ho
  | blk cs => obtain ⟨g', cur, t, h1, h2, h3, h4⟩ := h1; rw [hg] at h1; cases h1; exact ⟨(Array.getElem?_eq_some_iff.1 h3).1, h2⟩
  | vec e sz n f =>
    rcases h1 with ⟨h1, h2⟩ | ⟨g', cur, h1, h2, h3, _⟩
    · rw [hg] at h1; cases h1
    · rw [hg] at h1; cases h1; exact ⟨(Array.getElem?_eq_some_iff.1 h3).1, h2⟩

theorem own_lt {e : TypeId} {sz N : Nat} {v' : Value} {xs : List Value} (hown : w'.ownsRow 0 e sz v' N xs) {k : Nat} (hk : v'.ownBlock = some k) : k < w'.heap.size := by
  obtain ⟨hxl, hv⟩ := hown
  rcases hv with ⟨rfl, h0⟩ | ⟨g, cap, cur, rfl, _, hg, _⟩
  · cases hk
  · cases hk; exact (Array.getElem?_eq_some_iff.1 hg).1

section
open Go.Lib
variable {w : World}
theorem byteCells_str (s : ByteArray) : byteCells s = strCells s := by
  unfold byteCells strCells; rfl
theorem run_append_text {t u e : TypeId} (ty : TypeId) (ht : P.underlying t = some (.slice e)) (hu : P.underlying u = some .string) {v : Value} {n : Nat} {xs : List Value} (hown : w.ownsRow 0 e 1 v n xs)
    {i : TypeInfo} {zv : Value} (i1 : P.info? e = some i) (i2 : i.size = 1) (i3 : i.zero = some zv) (hz1 : zv.cells.size = 1) (i4 : i.bytes = 1) (s : ByteArray) (h63 : n + s.size ≤ maxLen) (hb : n + s.size ≤ 140737488355328) :
    ∃ v' w', (Builtin.append_ #[t, u] ty #[v, .string s]).run P w = .ok v' w' ∧ w'.ownsRow 0 e 1 v' (n + s.size) (xs ++ strCells s) ∧ w.grownBy w' v.ownBlock ∧ (v'.ownBlock = v.ownBlock ∨ v'.ownBlock = some w.heap.size) := by
  have hm : maxLen = 9223372036854775807 := rfl
  have hxl : xs.length = n := by simpa using hown.1
  have hlen : (xs ++ strCells s).length = (n + s.size) * 1 := by rw [List.length_append, hxl, strCells_length, Nat.mul_one]
  have grown : ∀ (old : Nat), old < n + s.size → ∀ (row : Option Nat),
      (w.drew.alloc (.cells ((xs ++ strCells s).toArray ++ Builtin.zeroCells zv.cells (grownCap w (n + s.size) old e - (n + s.size))) e)).ownsRow 0 e 1
        (.slice (some ⟨w.heap.size, 0, none⟩) (n + s.size) (grownCap w (n + s.size) old e)) (n + s.size) (xs ++ strCells s) ∧
      w.grownBy (w.drew.alloc (.cells ((xs ++ strCells s).toArray ++ Builtin.zeroCells zv.cells (grownCap w (n + s.size) old e - (n + s.size))) e)) row := by
    intro old ho row
    have hge := grownCap_ge w (n + s.size) old e
    have hcm : grownCap w (n + s.size) old e ≤ maxLen := grownCap_le_maxLen w (n + s.size) old e h63
    refine ⟨⟨hlen, .inr ⟨w.heap.size, _, _, rfl, Nat.zero_le _, heap_alloc_new w.drew _, hge, hcm, ?_, ?_⟩⟩, ⟨rfl, rfl, rfl, by simp, fun k hk _ => heap_alloc_old w.drew _ k hk⟩⟩
    · simp only [Array.size_append, List.size_toArray, size_zeroCells, hz1, hlen]
      omega
    · simp only [Array.toList_append]
      rw [← hlen]
      exact List.take_left
  have hsrc : Src P i.size u (.string s) s.size (strCells s) w := by rw [i2, ← byteCells_str]; exact Src.ofString w hu s
  rcases hown.2 with ⟨rfl, rfl⟩ | ⟨g, cap, cur, rfl, hbg, hg, hnc, hcm, hcs, htake⟩
  · have hx : xs = [] := List.eq_nil_of_length_eq_zero hxl
    subst hx
    by_cases h0 : s.size = 0
    · have hn : strCells s = [] := List.eq_nil_of_length_eq_zero (by rw [strCells_length]; exact h0)
      refine ⟨.slice none 0 0, w, ?_, by rw [h0, hn]; exact World.ownsRow_nil w 0 e 1, ⟨rfl, rfl, rfl, Nat.le_refl _, fun _ _ _ => rfl⟩, .inl rfl⟩
      have hf := run_firstCells_string (P := P) w 1 s
      rw [h0] at hf
      simp [Builtin.append_, run_underlying ht, run_underlying hu, sizeOf, typeInfo, i1, i2, Builtin.lenOf, h0, hf]
    · have hr := run_append_grow_src (P := P) w t u ty e i zv ht i1 i3 none 0 0 [] (by simp [Builtin.firstCells]) (.string s) s.size (strCells s) hsrc (by omega) (by omega) (by rw [i4]; exact growslice_fits (by omega) (by omega))
      have hgr := grown 0 (by omega) (Value.ownBlock (.slice none 0 0))
      exact ⟨_, _, hr, hgr.1, hgr.2, .inr rfl⟩
  · by_cases hroom : n + s.size ≤ cap
    · have hcs' : cur.size = cap := by simpa using hcs
      have hr := run_append_room_string (P := P) w t u ty e i ht hu i1 i2 g n cap cur hg s hroom (by omega)
      refine ⟨_, _, hr, ⟨hlen, .inr ⟨g, cap, _, rfl, hbg, setRow_heap w g cur _ e _ hg, hroom, hcm, ?_, ?_⟩⟩, ⟨rfl, rfl, rfl, by simp, fun k _ hk => setRow_other w g k _ (fun e => hk (by simp [Value.ownBlock, e]))⟩, .inl rfl⟩
      · simp only [List.size_toArray, List.length_append, List.length_take, List.length_drop, Array.length_toList, strCells_length]
        omega
      · have ht' : cur.toList.take n = xs := by simpa using htake
        rw [ht', ← hlen]
        exact List.take_left
    · have holds : ∀ j u, xs[j]? = some u → w.cell? ((⟨g, 0, none⟩ : Addr).add j) = some u := hown.cells (g := g) rfl
      have hold := run_firstCells_some (P := P) w.drew i.size n ⟨g, 0, none⟩ n cap xs (by rw [i2]; simpa using hxl) (by simpa using holds)
      have hr := run_append_grow_src (P := P) w t u ty e i zv ht i1 i3 (some ⟨g, 0, none⟩) n cap xs hold (.string s) s.size (strCells s) hsrc (by omega) (by omega) (by rw [i4]; exact growslice_fits (by omega) (by omega))
      have hgr := grown cap (by omega) (Value.ownBlock (.slice (some ⟨g, 0, none⟩) n cap))
      exact ⟨_, _, hr, hgr.1, hgr.2, .inr rfl⟩
theorem strCells_get (s : ByteArray) {i : Nat} (h : i < s.size) : (strCells s).getD i undef = .int .u8 (byteAt s (i : Nat)) := by
  have hd : i < s.data.size := h
  unfold strCells byteAt
  rw [List.getD_eq_getElem?_getD, List.getElem?_map, Array.getElem?_toList, Array.getElem?_eq_getElem hd]
  simp [Array.getD, h]
theorem strCells_one (s : ByteArray) : ∀ u ∈ strCells s, u.oneCell' = true := strCells_oneCell s
end
/-- What an append to an own row leaves, whatever its source. -/
theorem append_own (hh : HeapRel w M β cp h) {x : Operand} {b e sz : Nat} {n k m : Th Nat} {f g : Th Nat → List AV} {news : List Value} {K : Kont} (hx0 : Rep w M β cp (.own b n) (a.eval x)) (hb0 : nth .dead h b = .vec e sz k f) (hnk : n () ≤ k ())
    (hn1 : ∀ u ∈ news, u.oneCell' = true) (hgrep : ∀ (i j : Nat) (x : AV), i < m () → (g fun _ => i)[j]? = some x → RepC w M x (news.getD (i * sz + j) undef))
    (run : ∀ xs, w.ownsRow 0 e sz (a.eval x) (n ()) xs → ∃ v' w', (execOp a.eval o).run P w = .ok (.value v') w' ∧ w'.ownsRow 0 e sz v' (n () + m ()) (xs ++ news) ∧ w.grownBy w' (a.eval x).ownBlock ∧ (v'.ownBlock = (a.eval x).ownBlock ∨ v'.ownBlock = some w.heap.size))
    (hK : K (.own b fun _ => n () + m ()) (killHp b 0 (h.set b (.vec e sz (fun _ => n () + m ()) fun j => rowL sz (fun _ => decide (j () < n ())) (f j) (g fun _ => j () - n ())))) [b]) : Good2 P o a w M β cp h K := by
  have hb := nth_some hb0 rfl
  have hobj := hh.obj b _ hb
  -- the row as it is
  obtain ⟨xs, hown, hx1, hxrep⟩ : ∃ xs, w.ownsRow 0 e sz (a.eval x) (n ()) xs ∧ (∀ u ∈ xs, u.oneCell' = true) ∧ ∀ (i j : Nat) (z : AV), i < n () → (f fun _ => i)[j]? = some z → RepC w M z (xs.getD (i * sz + j) undef) := by
    rcases rep_own hx0 with ⟨h0, hv0⟩ | ⟨g0, hg0, hn0, hv0⟩
    · refine ⟨[], ⟨by simp [h0], .inl ⟨hv0, h0⟩⟩, by simp, fun i j z hi => by omega⟩
    · rcases hobj with ⟨e1, _⟩ | ⟨g', cur, e1, e2, e3, e4, e5, e6, e7, e8, e9⟩
      · rw [hg0] at e1; cases e1
      · rw [hg0] at e1; cases e1
        have hle : n () * sz ≤ cur.size := by rw [e4]; exact Nat.mul_le_mul_right _ (by omega)
        have hle2 : n () * sz ≤ k () * sz := Nat.mul_le_mul_right _ hnk
        refine ⟨cur.toList.take (n () * sz), ⟨by simp; omega, .inr ⟨g0, cp b, cur, hv0, Nat.zero_le _, e3, by omega, e7, e4, rfl⟩⟩, fun u hu => ?_, fun i j z hi hj => ?_⟩
        · obtain ⟨j, hj, rfl⟩ := List.mem_iff_getElem.1 hu
          have hj2 : j < n () * sz := by simp at hj; omega
          have := e5 j (by omega)
          simpa [show j < cur.size by omega] using this
        · have hjs : j < sz := by rw [← e8 i (by omega)]; exact (List.getElem?_eq_some_iff.1 hj).1
          have hlt : i * sz + j < n () * sz := by
            have := Nat.mul_le_mul_right sz (show i + 1 ≤ n () by omega)
            rw [Nat.succ_mul] at this
            omega
          have := e9 i j z (by omega) hj
          rw [List.getD_eq_getElem?_getD, List.getElem?_take, if_pos hlt, ← List.getD_eq_getElem?_getD, ← getD_arr]
          exact this
  obtain ⟨v', w', r1, r2, r3, r4⟩ := run xs hown
  have hvb : ∀ g0, (a.eval x).ownBlock = some g0 → β b = some g0 := by
    intro g0 hg0
    rcases rep_own hx0 with ⟨_, hv0⟩ | ⟨g1, hg1, _, hv0⟩
    · rw [hv0] at hg0; cases hg0
    · rw [hv0] at hg0; cases hg0; exact hg1
  have hkeep : ∀ k, k < w.heap.size → ¬ M k → w'.heap[k]? = w.heap[k]? ∧ ¬ (M k ∨ v'.ownBlock = some k) := by
    intro k hk hM
    refine ⟨r3.block k hk fun e => hM (blk_lt hh hb rfl (hvb k e.symm)).2, fun h => ?_⟩
    rcases h with h | h
    · exact hM h
    · rcases r4 with r4 | r4
      · exact hM (blk_lt hh hb rfl (hvb k (by rw [← r4]; exact h))).2
      · rw [r4] at h; cases h; omega
  obtain ⟨cap, hcap⟩ := capOf v'
  have hβ' : ∀ c, c ≠ b → (updO β b v'.ownBlock) c = β c ∧ (updN cp b cap) c = cp c := fun c hc => by simp [updO, updN, hc]
  have hnew : ∀ g0, v'.ownBlock = some g0 → β b = some g0 ∨ w.heap.size ≤ g0 := by
    intro g0 hg0
    rcases r4 with r4 | r4
    · exact .inl (hvb g0 (by rw [← r4]; exact hg0))
    · rw [r4] at hg0; cases hg0; exact .inr (Nat.le_refl _)
  have hobj' := obj_of_row (M' := fun k => M k ∨ v'.ownBlock = some k) (β' := updO β b v'.ownBlock) (cp' := updN cp b cap) (b := b) r2 (fun k hk => .inr hk) (by simp [updO]) (fun ad n c hv => by simp [updN, hcap ad n c hv])
    (by intro u hu; rcases List.mem_append.1 hu with hu | hu; exact hx1 u hu; exact hn1 u hu)
    (F := fun j => rowL sz (fun _ => decide (j () < n ())) (f j) (g fun _ => j () - n ())) (fun i hi => rowL_len _ _ _ _)
    (fun i j z hi hj => by
      obtain ⟨hjs, rfl⟩ := rowL_get _ _ _ _ _ _ hj
      have hxl : xs.length = n () * sz := hown.1
      refine pick_rep _ _ (fun hc => ?_) (fun hc => ?_)
      · have hi2 : i < n () := by simpa using hc
        have hlt : i * sz + j < xs.length := by
          have := Nat.mul_le_mul_right sz (show i + 1 ≤ n () by omega)
          rw [Nat.succ_mul] at this
          omega
        rw [List.getD_eq_getElem?_getD (l := xs ++ news), List.getElem?_append_left hlt, ← List.getD_eq_getElem?_getD]
        rw [List.getD_eq_getElem?_getD]
        cases hf : (f fun _ => i)[j]? with
        | none => exact .any _
        | some z => exact (hxrep i j z hi2 hf).keep hkeep
      · have hi2 : ¬ i < n () := by simpa using hc
        have e1 : i * sz + j - xs.length = (i - n ()) * sz + j := by rw [hxl, Nat.sub_mul]; have := Nat.mul_le_mul_right sz (show n () ≤ i by omega); omega
        have hge : xs.length ≤ i * sz + j := by rw [hxl]; have := Nat.mul_le_mul_right sz (show n () ≤ i by omega); omega
        rw [List.getD_eq_getElem?_getD (l := xs ++ news), List.getElem?_append_right hge, e1, ← List.getD_eq_getElem?_getD]
        rw [List.getD_eq_getElem?_getD]
        cases hf : (g fun _ => i - n ())[j]? with
        | none => exact .any _
        | some z => exact (hgrep (i - n ()) j z (by omega) hf).keep hkeep) (n := fun _ => n () + m ()) rfl
  have hlen' : (killHp b 0 (h.set b (.vec e sz (fun _ => n () + m ()) fun j => rowL sz (fun _ => decide (j () < n ())) (f j) (g fun _ => j () - n ())))).length = h.length := by rw [killHp_len]; simp
  have hget : ∀ c o', (killHp b 0 (h.set b (.vec e sz (fun _ => n () + m ()) fun j => rowL sz (fun _ => decide (j () < n ())) (f j) (g fun _ => j () - n ()))))[c]? = some o' →
      (c = b ∧ o' = .vec e sz (fun _ => n () + m ()) fun j => rowL sz (fun _ => decide (j () < n ())) (f j) (g fun _ => j () - n ())) ∨ (c ≠ b ∧ ∃ y, h[c]? = some y ∧ o' = y.kill b) := by
    intro c o' hc
    obtain ⟨y, hy, h1⟩ := killHp_get _ _ _ _ hc
    rw [List.getElem?_set] at hy
    rcases h1 with ⟨h1, rfl⟩ | ⟨h1, rfl⟩
    · rw [if_pos (by omega)] at hy
      split at hy
      · exact .inl ⟨by omega, by cases hy; rfl⟩
      · cases hy
    · rw [if_neg (by omega)] at hy
      exact .inr ⟨by omega, y, hy, rfl⟩
  refine ⟨v', w', fun k => M k ∨ v'.ownBlock = some k, updO β b v'.ownBlock, updN cp b cap, _, _, [b], r1, hK, ⟨fun c hc => ?_, fun c o' hc => ?_, fun c c' o1 o2 g0 hc hc' hl1 hl2 hg hg' => ?_, fun k hk => hk.elim (fun h1 => Nat.lt_of_lt_of_le (hh.dom k h1) r3.size) fun h1 => own_lt r2 h1⟩, ⟨hkeep, fun c hc h0 => ?_, ⟨r3.os, r3.tape, r3.output, r3.size, fun k hk hB => ?_, fun k hk => .inl hk, fun k hk => ?_⟩, ?_⟩, hobj'.2⟩
  · have hbl : b < h.length := (List.getElem?_eq_some_iff.1 hb).1
    rw [hlen'] at hc
    rw [(hβ' c (by omega)).1]
    exact hh.out c hc
  · rcases hget c o' hc with ⟨rfl, rfl⟩ | ⟨hne, y, hy, rfl⟩
    · exact hobj'.1
    · by_cases hly : y.live = true
      · exact objKill_rep hβ' hne (objRel_kept (hh.obj c y hy) hkeep fun g0 hg0 => ⟨r3.block g0 (blk_lt hh hy hly hg0).1 fun e => hne (hh.inj c b y _ g0 hy hb hly rfl hg0 (hvb g0 e.symm)), .inl⟩)
      · cases y with
        | dead => trivial
        | blk cs => exact absurd rfl hly
        | vec _ _ _ _ => exact absurd rfl hly
  · have key : ∀ c y, c ≠ b → h[c]? = some y → y.live = true → (updO β b v'.ownBlock) c = some g0 → (updO β b v'.ownBlock) b = some g0 → False := by
      intro c y hne hy hly h1 h2
      rw [(hβ' c hne).1] at h1
      have h2 : v'.ownBlock = some g0 := by simpa [updO] using h2
      rcases hnew g0 h2 with h3 | h3
      · exact hne (hh.inj c b y _ g0 hy hb hly rfl h1 h3)
      · have := (blk_lt hh hy hly h1).1; omega
    rcases hget c o1 hc with ⟨rfl, rfl⟩ | ⟨hne, y, hy, rfl⟩
    · rcases hget c' o2 hc' with ⟨rfl, rfl⟩ | ⟨hne', y', hy', rfl⟩
      · rfl
      · exact (key c' y' hne' hy' (by rw [← kill_live (b := c) y']; exact hl2) hg' hg).elim
    · rcases hget c' o2 hc' with ⟨rfl, rfl⟩ | ⟨hne', y', hy', rfl⟩
      · exact (key c y hne hy (by rw [← kill_live (b := c') y]; exact hl1) hg hg').elim
      · rw [(hβ' c hne).1] at hg
        rw [(hβ' c' hne').1] at hg'
        exact hh.inj c c' y y' g0 hy hy' (by rw [← kill_live (b := b) y]; exact hl1) (by rw [← kill_live (b := b) y']; exact hl2) hg hg'
  · have hne : c ≠ b := by rintro rfl; simp [memN_cons] at hc
    exact hβ' c hne
  · exact r3.block k hk fun e => hB ⟨b, _, hb, rfl, hvb k e.symm⟩
  · rcases hk with hk | hk
    · exact .inl hk
    · rcases hnew k hk with h1 | h1
      · exact .inl (blk_lt hh hb rfl h1).2
      · exact .inr h1
  · rintro g0 ⟨c, o', hc, hl, hg⟩
    rcases hget c o' hc with ⟨rfl, rfl⟩ | ⟨hne, y, hy, rfl⟩
    · rcases hnew g0 (by simpa [updO] using hg) with h1 | h1
      · exact .inl ⟨c, _, hb, rfl, h1⟩
      · exact .inr h1
    · rw [(hβ' c hne).1] at hg
      exact .inl ⟨c, y, hy, by rw [← kill_live (b := b) y]; exact hl, hg⟩
/-- What an append to nil leaves, whatever its source. -/
theorem append_new (hh : HeapRel w M β cp h) {e sz : Nat} {m : Th Nat} {g : Th Nat → List AV} {news : List Value} {K : Kont}
    (hn1 : ∀ u ∈ news, u.oneCell' = true) (hglen : ∀ i : Nat, i < m () → (g fun _ => i).length = sz) (hgrep : ∀ (i j : Nat) (x : AV), i < m () → (g fun _ => i)[j]? = some x → RepC w M x (news.getD (i * sz + j) undef))
    (run : ∃ v' w', (execOp a.eval o).run P w = .ok (.value v') w' ∧ w'.ownsRow 0 e sz v' (0 + m ()) ([] ++ news) ∧ w.grownBy w' (Value.slice none 0 0).ownBlock ∧ (v'.ownBlock = (Value.slice none 0 0).ownBlock ∨ v'.ownBlock = some w.heap.size))
    (hK : K (.own (len h) m) (h ++ [.vec e sz m g]) []) : Good2 P o a w M β cp h K := by
  obtain ⟨v', w', r1, r2, r3, r4⟩ := run
  have hkeep : ∀ k, k < w.heap.size → ¬ M k → w'.heap[k]? = w.heap[k]? ∧ ¬ (M k ∨ v'.ownBlock = some k) := by
    intro k hk hM
    refine ⟨r3.block k hk (by simp [Value.ownBlock]), fun h => ?_⟩
    rcases h with h | h
    · exact hM h
    · rcases r4 with r4 | r4
      · rw [r4] at h; cases h
      · rw [r4] at h; cases h; omega
  have hsame : ∀ k, k < w.heap.size → w'.heap[k]? = w.heap[k]? := fun k hk => r3.block k hk (by simp [Value.ownBlock])
  obtain ⟨cap, hcap⟩ := capOf v'
  have hout := hh.out h.length (Nat.le_refl _)
  have hβ' : ∀ c, c ≠ h.length → (updO β h.length v'.ownBlock) c = β c ∧ (updN cp h.length cap) c = cp c := fun c hc => by simp [updO, updN, hc]
  have hnew : ∀ g0, v'.ownBlock = some g0 → w.heap.size ≤ g0 := by
    intro g0 hg0
    rcases r4 with r4 | r4
    · rw [r4] at hg0; cases hg0
    · rw [r4] at hg0; cases hg0; exact Nat.le_refl _
  have hobj' := obj_of_row (M' := fun k => M k ∨ v'.ownBlock = some k) (β' := updO β h.length v'.ownBlock) (cp' := updN cp h.length cap) (b := h.length) r2 (fun k hk => .inr hk) (by simp [updO]) (fun ad n c hv => by simp [updN, hcap ad n c hv])
    (by intro u hu; exact hn1 u (by simpa using hu)) (F := g) (fun i hi => hglen i (by omega))
    (fun i j z hi hj => by have := (hgrep i j z (by omega) hj).keep hkeep; simpa using this) (n := m) (by omega)
  have hget : ∀ c o', (h ++ [AObj.vec e sz m g])[c]? = some o' → (c = h.length ∧ o' = .vec e sz m g) ∨ (c ≠ h.length ∧ h[c]? = some o') := by
    intro c o' hc
    rw [List.getElem?_append] at hc
    split at hc
    · exact .inr ⟨by omega, hc⟩
    · have : c - h.length = 0 := by
        rcases Nat.eq_zero_or_pos (c - h.length) with h0 | h0
        · exact h0
        · rw [List.getElem?_eq_none (by simp; omega)] at hc; cases hc
      rw [this] at hc
      exact .inl ⟨by omega, by simpa using hc.symm⟩
  have hbk : ∀ b, β b ≠ none → updO β h.length v'.ownBlock b = β b ∧ updN cp h.length cap b = cp b := fun b hb => hβ' b (by rintro rfl; exact hb hout)
  have hlen : len h = h.length := len_eq h
  rw [hlen] at hK
  refine ⟨v', w', fun k => M k ∨ v'.ownBlock = some k, updO β h.length v'.ownBlock, updN cp h.length cap, _, _, [], r1, hK, ⟨fun c hc => ?_, fun c o' hc => ?_, fun c c' o1 o2 g0 hc hc' hl1 hl2 hg hg' => ?_, fun k hk => hk.elim (fun h1 => Nat.lt_of_lt_of_le (hh.dom k h1) r3.size) fun h1 => own_lt r2 h1⟩, ⟨hkeep, fun c _ h0 => hbk c h0, ⟨r3.os, r3.tape, r3.output, r3.size, fun k hk _ => hsame k hk, fun k hk => .inl hk, fun k hk => hk.elim .inl fun h1 => .inr (hnew k h1)⟩, ?_⟩, hobj'.2⟩
  · rw [(hβ' c (by simp at hc; omega)).1]
    exact hh.out c (by simp at hc; omega)
  · rcases hget c o' hc with ⟨rfl, rfl⟩ | ⟨hne, hy⟩
    · exact hobj'.1
    · by_cases hly : o'.live = true
      · exact (hh.obj c o' hy).keep hkeep hbk (fun h0 => by rw [(hβ' c hne).1]; exact h0) fun g0 hg0 => ⟨hsame g0 (blk_lt hh hy hly hg0).1, .inl⟩
      · cases o' with
        | dead => trivial
        | blk cs => exact absurd rfl hly
        | vec _ _ _ _ => exact absurd rfl hly
  · have key : ∀ c y, c ≠ h.length → h[c]? = some y → y.live = true → (updO β h.length v'.ownBlock) c = some g0 → (updO β h.length v'.ownBlock) h.length = some g0 → False := by
      intro c y hne hy hly h1 h2
      rw [(hβ' c hne).1] at h1
      have h2 : v'.ownBlock = some g0 := by simpa [updO] using h2
      have h3 := hnew g0 h2
      have := (blk_lt hh hy hly h1).1
      omega
    rcases hget c o1 hc with ⟨rfl, rfl⟩ | ⟨hne, hy⟩
    · rcases hget c' o2 hc' with ⟨rfl, rfl⟩ | ⟨hne', hy'⟩
      · rfl
      · exact (key c' o2 hne' hy' hl2 hg' hg).elim
    · rcases hget c' o2 hc' with ⟨rfl, rfl⟩ | ⟨hne', hy'⟩
      · exact (key c o1 hne hy hl1 hg hg').elim
      · rw [(hβ' c hne).1] at hg
        rw [(hβ' c' hne').1] at hg'
        exact hh.inj c c' o1 o2 g0 hy hy' hl1 hl2 hg hg'
  · rintro g0 ⟨c, o', hc, hl, hg⟩
    rcases hget c o' hc with ⟨rfl, rfl⟩ | ⟨hne, hy⟩
    · exact .inr (hnew g0 (by simpa [updO] using hg))
    · rw [(hβ' c hne).1] at hg
      exact .inl ⟨c, o', hy, hl, hg⟩
theorem append_sound (hE : EnvOk P E) {c : Call} (ho : o.op = .call c) (hcal : c.callee = .builtin .append) (hh : HeapRel w M β cp h) (hx : ∀ x, Rep w M β cp (ev s x) (a.eval x)) {K : Kont}
    (hz : ∀ t e sz b z, E.ty t = .slice e sz b z → z.length = sz) (hv : aAppend E o c s h K) : Good2 P o a w M β cp h K := by
  unfold aAppend at hv
  split at hv
  · rename_i t t' x y hta ha
    split at hv
    · rename_i e sz bytes z q0 hT
      have q0 := beq_iff.1 q0
      subst q0
      have hTy := hE.ty t
      rw [hT] at hTy
      have hzl := hz t e sz bytes z hT
      have hargs : c.args = #[x, y] := Array.toList_inj.1 ha
      have hats : c.argTypes = #[t, t] := Array.toList_inj.1 hta
      have run : ∀ v' w', (Builtin.append_ #[t, t] o.type #[a.eval x, a.eval y]).run P w = .ok v' w' → (execOp a.eval o).run P w = .ok (.value v') w' := by
        intro v' w' hv'
        simp [execOp, ho, resolve, hcal, invoke, builtin, hargs, hats, hv']
      split at hv
      · rename_i q m g hsrc
        have hx0 := hx x
        split at hv
        · rename_i b n hX
          rw [hX] at hx0
          split at hv
          · rename_i e' sz' k f hb
            split at hv
            · rename_i q1 q2
              have q1 := beq_iff.1 q1
              have q2 := beq_iff.1 q2
              subst q1 q2
              cases hv with
              | mk hob hK =>
              obtain ⟨hnk, hq, hby, hmx⟩ := hob
              obtain ⟨ao, c', news, ey, hnl, hnc, hn1, hglen, hgrep⟩ := src_sound hTy.2.1 hh (hx y) hsrc hq
              refine append_own hh hx0 hb hnk hn1 hgrep (fun xs hown => ?_) hK
              obtain ⟨v', w', r1, r2⟩ := run_append_any (P := P) (ty := o.type) hTy hzl hown hnl hnc hn1 (by unfold maxLen; omega) hby
              exact ⟨v', w', run v' w' (by rw [ey]; exact r1), r2⟩
            · cases hv
          · cases hv
        · rename_i hX
          rw [hX] at hx0
          have hv0 := rep_nil hx0
          cases hv with
          | mk hob hK =>
          obtain ⟨hq, hby, hmx⟩ := hob
          obtain ⟨ao, c', news, ey, hnl, hnc, hn1, hglen, hgrep⟩ := src_sound hTy.2.1 hh (hx y) hsrc hq
          have hown : w.ownsRow 0 e sz (a.eval x) 0 [] := ⟨by simp, .inl ⟨hv0, rfl⟩⟩
          obtain ⟨v', w', r1, r2, r3, r4⟩ := run_append_any (P := P) (ty := o.type) hTy hzl hown hnl hnc hn1 (by unfold maxLen; omega) (by simpa using hby)
          rw [hv0] at r3 r4
          exact append_new hh hn1 hglen hgrep ⟨v', w', run v' w' (by rw [ey]; exact r1), r2, r3, r4⟩ hK
        · cases hv
      · cases hv
    · rename_i e sz bytes z q0 hT
      have hTy := hE.ty t
      rw [hT] at hTy
      have hzl := hz t e sz bytes z hT
      obtain ⟨hu, hsz, _, ⟨i, i1, i2, zv, i3, i4, _⟩, hby, _⟩ := hTy
      have hargs : c.args = #[x, y] := Array.toList_inj.1 ha
      have hats : c.argTypes = #[t, t'] := Array.toList_inj.1 hta
      have run : ∀ v' w', (Builtin.append_ #[t, t'] o.type #[a.eval x, a.eval y]).run P w = .ok v' w' → (execOp a.eval o).run P w = .ok (.value v') w' := by
        intro v' w' hv'
        simp [execOp, ho, resolve, hcal, invoke, builtin, hargs, hats, hv']
      split at hv
      · rename_i v q1 q2 hT' hY
        have q1 := beq_iff.1 q1
        have q2 := beq_iff.1 q2
        subst q1 q2
        have hTs := hE.ty t'
        rw [hT'] at hTs
        have hy0 := hx y
        rw [hY] at hy0
        have ey := rep_s hy0
        have ib : i.bytes = 1 := by rw [i1] at hby; simpa using hby
        have hz1 : zv.cells.size = 1 := by rw [← hzl, ← i4]; simp
        have grep : ∀ (i j : Nat) (x : AV), i < (v ()).size → ([AV.i .u8 fun _ => byteAt (v ()) (i : Nat)])[j]? = some x → RepC w M x ((Go.Lib.strCells (v ())).getD (i * 1 + j) undef) := by
          intro i j x hi hj
          cases j with
          | succ j => simp at hj
          | zero =>
            simp only [List.getElem?_cons_zero, Option.some.injEq] at hj
            subst hj
            rw [Nat.mul_one, Nat.add_zero, strCells_get _ hi]
            exact .i .u8 fun _ => byteAt (v ()) (i : Nat)
        have hx0 := hx x
        split at hv
        · rename_i b n hX
          rw [hX] at hx0
          split at hv
          · rename_i e' sz' k f hb
            split at hv
            · rename_i q1 q2
              have q1 := beq_iff.1 q1
              have q2 := beq_iff.1 q2
              subst q1 q2
              cases hv with
              | mk hob hK =>
              refine append_own (g := fun i => [.i .u8 fun _ => byteAt (v ()) (i () : Nat)]) (m := fun _ => (v ()).size) hh hx0 hb hob.1 (strCells_one _) (fun i j x hi hj => grep i j x hi hj) (fun xs hown => ?_) hK
              obtain ⟨v', w', r1, r2⟩ := run_append_text o.type hu hTs.1 hown i1 i2 i3 hz1 ib (v ()) (by have := hob.2; unfold maxLen; omega) hob.2
              exact ⟨v', w', run v' w' (by rw [ey]; exact r1), r2⟩
            · cases hv
          · cases hv
        · rename_i hX
          rw [hX] at hx0
          have hv0 := rep_nil hx0
          cases hv with
          | mk hob hK =>
          have hown : w.ownsRow 0 e 1 (a.eval x) 0 [] := ⟨by simp, .inl ⟨hv0, rfl⟩⟩
          obtain ⟨v', w', r1, r2, r3, r4⟩ := run_append_text o.type hu hTs.1 hown i1 i2 i3 hz1 ib (v ()) (by unfold maxLen; omega) (by omega)
          rw [hv0] at r3 r4
          exact append_new (g := fun i => [.i .u8 fun _ => byteAt (v ()) (i () : Nat)]) (m := fun _ => (v ()).size) hh (strCells_one _) (fun i _ => rfl) (fun i j x hi hj => grep i j x hi hj) ⟨v', w', run v' w' (by rw [ey]; exact r1), r2, r3, r4⟩ hK
        · cases hv
      · cases hv
    · cases hv
  · cases hv

end
end Go.Abs
