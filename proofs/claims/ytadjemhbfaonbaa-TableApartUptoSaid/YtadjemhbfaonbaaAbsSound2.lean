/- The abstract step is right: loads, stores, new blocks. -/
import Derived.Test.YtadjemhbfaonbaaAbsSound
import Derived.Deep.Draws
set_option linter.all false
namespace Go.Abs
open Go
section
variable {P : Program} {E : Env} {o : Oper} {a : Act} {w : World} {M : Nat → Prop} {β : Nat → Option Nat} {cp : Nat → Nat} {h : Hp} {s : Tm} {nid : Nat}

theorem nth_some {b : Nat} {x : AObj} (hb : nth .dead h b = x) (hx : x.live = true) : h[b]? = some x := by
  rw [nth_eq, List.getD_eq_getElem?_getD] at hb
  cases h1 : h[b]? with
  | none => rw [h1] at hb; subst hb; simp [AObj.live] at hx
  | some y => rw [h1] at hb; simp at hb; rw [hb]

theorem cell_of_row {g i : Nat} {cur : Array Value} {t : TypeId} {fr : Nat × Nat} (hg : w.heap[g]? = some (.cells cur t fr)) (hi : i < cur.size) : w.cell? ⟨g, i, none⟩ = some cur[i] := by
  simp [World.cell?, hg, hi]

theorem addr_add (g o n : Nat) : (⟨g, o, none⟩ : Addr).add n = ⟨g, o + n, none⟩ := by unfold Addr.add; split <;> simp_all

theorem sound_mono {r : Res} {Q Q' : AV → Chg → Prop} (hr : r.Sound Q) (h : ∀ v c, Q v c → Q' v c) : r.Sound Q' := by
  cases r with
  | bad n => trivial
  | ok v c => exact h v c hr
  | ob p v c => exact fun hp => h v c (hr hp)

theorem load_val {T : Ty} {t : TypeId} (hT : TyOk P t T) (hh : HeapRel w M β cp h) {X : AV} {x : Value} (hx : Rep w M β cp X x) :
    (aLoad T h X).Sound (fun v (c : Chg) => c = .no ∧ ∃ ad v', x = .pointer (some ad) ∧ (loadVar t ad).run P w = .ok v' w ∧ Rep w M β cp v v') := by
  have hrun : ∀ ad, x = .pointer (some ad) → ∀ v c, LoadOk P w M β cp t ad v c → (c = .no ∧ ∃ ad v', x = .pointer (some ad) ∧ (loadVar t ad).run P w = .ok v' w ∧ Rep w M β cp v v') :=
    fun ad he v c ⟨h1, v', h2, h3⟩ => ⟨h1, ad, v', he, h2, h3⟩
  unfold aLoad
  split
  · rename_i b ofs
    obtain ⟨g, hg, he⟩ := rep_ptr hx
    split
    · rename_i cs hb
      have hb := nth_some hb rfl
      obtain ⟨g', cur, t', h1, h2, h3, h4, h5⟩ := hh.obj b _ hb
      rw [hg] at h1; cases h1
      have hl : cur.size = cs.length := by simpa using h4.1
      refine sound_mono (load_cells hT (ad := ⟨g, ofs, none⟩) (u := fun j => cur.getD (ofs + j) undef) (fun _ => ⟨fun j hj => ?_, fun j hj => ?_, fun j y hj => ?_⟩)) (hrun _ he)
      · rw [dropN_eq] at hj
        simp at hj
        rw [addr_add, cell_of_row h3 (by omega)]
        simp [show ofs + j < cur.size by omega]
      · rw [dropN_eq] at hj
        simp at hj
        have hlt : ofs + j < cur.size := by omega
        simp only [Array.getD, hlt, dif_pos]
        exact h5 _ (Array.getElem_mem hlt)
      · rw [dropN_eq, List.getElem?_drop] at hj
        have := h4.2 _ _ hj
        simpa [Array.getD_eq_getD_getElem?] using this
    · trivial
  · rename_i b sz i ofs
    obtain ⟨g, hg, he⟩ := rep_ept hx
    split
    · rename_i et sz' n f hb
      split
      · rename_i hsz
        have hsz := beq_iff.1 hsz
        subst hsz
        have hb := nth_some hb rfl
        refine sound_mono (load_cells hT (ad := ⟨g, i () * sz + ofs, none⟩) (fun hp => ?_) (u := fun j => ((w.heap[g]?).elim undef fun | .cells cur _ _ => cur.getD (i () * sz + ofs + j) undef | _ => undef))) (hrun _ he)
        have hlt := hp _ rfl
        rcases hh.obj b _ hb with ⟨h1, _⟩ | ⟨g', cur, h1, h2, h3, h4, h5, h6, h7, h8, h9⟩
        · rw [hg] at h1; cases h1
        · rw [hg] at h1; cases h1
          have hlen := h8 (i ()) hlt
          have hfi : (f fun _ => i ()) = f i := rfl
          rw [hfi] at hlen
          have hsz2 : (i () + 1) * sz ≤ cur.size := by rw [h4]; exact Nat.mul_le_mul_right _ (by omega)
          rw [Nat.succ_mul] at hsz2
          simp only [h3, Option.elim]
          refine ⟨fun j hj => ?_, fun j hj => ?_, fun j y hj => ?_⟩
          · rw [dropN_eq] at hj
            simp at hj
            have hlt2 : i () * sz + ofs + j < cur.size := by omega
            rw [addr_add, cell_of_row h3 hlt2]
            simp [hlt2]
          · rw [dropN_eq] at hj
            simp at hj
            have hlt3 : i () * sz + ofs + j < n () * sz := by
              have := Nat.mul_le_mul_right sz (show i () + 1 ≤ n () by omega)
              rw [Nat.succ_mul] at this
              omega
            exact h5 _ hlt3
          · rw [dropN_eq, List.getElem?_drop] at hj
            have := h9 (i ()) (ofs + j) y hlt hj
            rw [Nat.add_assoc]
            exact .c this
      · trivial
    · trivial
  · rename_i l
    obtain ⟨ad, u, he, hM, hl, hc, h1, hr⟩ := rep_rp hx
    exact sound_mono (load_cells hT (ad := ad) (u := u) (fun _ => ⟨hc, h1, fun j y hj => .c (hr j y hj)⟩)) (hrun _ he)
  · trivial

theorem load_sound {T : Ty} {t : TypeId} (hT : TyOk P t T) (hh : HeapRel w M β cp h) {x : Operand} (ho : o.op = .load t x) {X : AV} (hx : Rep w M β cp X (a.eval x)) :
    (aLoad T h X).Sound (Good P o a w M β cp h nid) := by
  refine sound_mono (load_val hT hh hx) ?_
  rintro v c ⟨rfl, ad, v', he, hl, hr⟩
  exact good_val hh (by simp [execOp, ho, Instr.loadAt, Instr.sureAddr, he, hl]) hr

theorem tySz_run {T : Ty} {t : TypeId} (hT : TyOk P t T) {sz : Nat} (hs : tySz T = some sz) : (sizeOf t).run P w = .ok sz w := by
  cases T with
  | int k => cases hs; exact run_sizeOf hT.2
  | bool => cases hs; exact run_sizeOf hT.2
  | str => cases hs; exact run_sizeOf hT.2
  | slice e sz b z => cases hs; exact run_sizeOf hT.2.2.2.2.2
  | struct fl fs sz z => cases hs; exact run_sizeOf hT.2
  | one => cases hs; exact run_sizeOf hT.2
  | other => cases hs

/-- Laying values over a row of a block that is known. -/
theorem run_storeVar {t : TypeId} {sz : Nat} (hsz : (sizeOf t).run P w = .ok sz w) {g ofs : Nat} {cur : Array Value} {t' : TypeId} (hg : w.heap[g]? = some (.cells cur t' (0, 0))) {v : Value}
    (hv : v.cells.size = sz) (h1 : ∀ u ∈ v.cells.toList, u.oneCell' = true) (hle : ofs + v.cells.size ≤ cur.size) :
    (storeVar t ⟨g, ofs, none⟩ v).run P w = .ok () (w.setRow g (cur.toList.take ofs ++ v.cells.toList ++ cur.toList.drop (ofs + v.cells.size)).toArray) := by
  have := run_storeCells_at (P := P) g ofs t' v.cells.toList 0 cur w hg (by simpa using hle) h1
  simp only [Nat.add_zero, Array.length_toList] at this
  simp [storeVar, hsz, hv, this]

theorem setRow_facts {g : Nat} {cur cur' : Array Value} {t : TypeId} {fr : Nat × Nat} (hg : w.heap[g]? = some (.cells cur t fr)) :
    (w.setRow g cur').os = w.os ∧ (w.setRow g cur').tape = w.tape ∧ (w.setRow g cur').output = w.output ∧ (w.setRow g cur').heap.size = w.heap.size ∧
    (w.setRow g cur').heap[g]? = some (.cells cur' t fr) ∧ ∀ k, k ≠ g → (w.setRow g cur').heap[k]? = w.heap[k]? := by
  have hlt : g < w.heap.size := (Array.getElem?_eq_some_iff.1 hg).1
  refine ⟨?_, ?_, ?_, ?_, ?_, fun k hk => ?_⟩ <;> simp [World.setRow, Array.getElem?_modify, hg]
  intro h; exact absurd h.symm hk


theorem pick_rep {c : Th Bool} {v : Value} (x y : AV) (hx : c () = true → RepC w M x v) (hy : c () = false → RepC w M y v) : RepC w M (AV.pick c x y) v := by
  unfold AV.pick
  split
  all_goals first
    | exact .ite _ _ _ _ hx hy
    | (cases hc : c () with
       | true =>
         have h1 := hx hc
         cases h1
         simp only [cond_true, show c () = true from hc]
         first | exact .i _ _ | exact .b _ | exact .s _ | exact .b (fun _ => _)
       | false =>
         have h1 := hy hc
         cases h1
         simp only [cond_false]
         first | exact .i _ _ | exact .b _ | exact .s _ | exact .b (fun _ => _))

theorem pickL_get {c : Th Bool} : ∀ (l m : List AV) (j : Nat) (z : AV), (pickL c l m)[j]? = some z → ∃ x y, l[j]? = some x ∧ m[j]? = some y ∧ z = AV.pick c x y
  | [], _, _, _, h => by simp [pickL] at h
  | _ :: _, [], _, _, h => by simp [pickL] at h
  | x :: l, y :: m, 0, z, h => ⟨x, y, rfl, rfl, by simpa [pickL] using h.symm⟩
  | x :: l, y :: m, j + 1, z, h => by simpa using pickL_get l m j z (by simpa [pickL] using h)
theorem pickL_len {c : Th Bool} : ∀ (l m : List AV), l.length = m.length → (pickL c l m).length = m.length
  | [], [], _ => rfl
  | x :: l, y :: m, h => by simp [pickL, pickL_len l m (by simpa using h)]
  | [], _ :: _, h => by simp at h
  | _ :: _, [], h => by simp at h

theorem closed_rep {x : AV} {v : Value} (hr : Rep w M β cp x v) : closed x = true → RepC w M x v := by
  have hL : ∀ (l : List AV), closedL l = true → ∀ (j : Nat) (y : AV), l[j]? = some y → closed y = true := by
    intro l
    induction l with
    | nil => intro _ j y h; simp at h
    | cons x r ih =>
      intro hc j y hj
      simp only [closedL] at hc
      split at hc
      · rename_i h1
        cases j with
        | zero => simp at hj; subst hj; exact h1
        | succ j => exact ih hc j y (by simpa using hj)
      · cases hc
  induction hr with
  | c h => exact fun _ => h
  | agg l cs hl ho h ih => exact fun hc => .agg l cs hl ho fun j x hj => ih j x hj (hL l (by simpa [closed] using hc) j x hj)
  | ite c x y v h1 h2 ih1 ih2 =>
    intro hc
    simp only [closed] at hc
    split at hc
    · rename_i q; exact .ite c x y v (fun h => ih1 h q) (fun h => ih2 h hc)
    · cases hc
  | tup l cs hl h ih => exact fun hc => .tup l cs hl fun j x hj => ih j x hj (hL l (by simpa [closed] using hc) j x hj)
  | _ => intro hc; simp [closed] at hc
theorem closedL_get : ∀ {l : List AV}, closedL l = true → ∀ {j : Nat} {y : AV}, l[j]? = some y → closed y = true
  | [], _, j, y, h => by simp at h
  | x :: r, hc, j, y, hj => by
    simp only [closedL] at hc
    split at hc
    · rename_i h1
      cases j with
      | zero => simp at hj; subst hj; exact h1
      | succ j => exact closedL_get hc (by simpa using hj)
    · cases hc

theorem getD_list {α : Type} (l : List α) (d : α) (j : Nat) : l.toArray.getD j d = l.getD j d := by simp [Array.getD_eq_getD_getElem?, List.getD_eq_getElem?_getD]
theorem getD_arr (l : Array Value) (d : Value) (j : Nat) : l.getD j d = l.toList.getD j d := by simp [Array.getD_eq_getD_getElem?, List.getD_eq_getElem?_getD]

/-- What a row reads behind values laid over it. -/
theorem splice_vals (cur vs : List Value) (o j : Nat) (hle : o + vs.length ≤ cur.length) :
    (cur.take o ++ vs ++ cur.drop (o + vs.length)).getD j undef = if o ≤ j ∧ j < o + vs.length then vs.getD (j - o) undef else cur.getD j undef := by
  have key : (cur.take o ++ vs ++ cur.drop (o + vs.length))[j]? = if o ≤ j ∧ j < o + vs.length then vs[j - o]? else cur[j]? := by
    rw [List.getElem?_append, List.getElem?_append]
    have : min o cur.length = o := Nat.min_eq_left (by omega)
    simp only [List.length_append, List.length_take, List.getElem?_take, List.getElem?_drop, this]
    by_cases h1 : j < o
    · rw [if_pos (by omega), if_pos h1, if_pos h1, if_neg (by omega)]
    · by_cases h2 : j < o + vs.length
      · rw [if_pos h2, if_neg h1, if_pos (by omega)]
      · rw [if_neg h2, if_neg (by omega)]
        congr 1; omega
  simp only [List.getD_eq_getElem?_getD, key]
  split <;> rfl
theorem splice_avs (cs vs : List AV) (o j : Nat) (hle : o + vs.length ≤ cs.length) :
    (splice o vs cs)[j]? = if o ≤ j ∧ j < o + vs.length then vs[j - o]? else cs[j]? := by
  rw [splice_eq o vs cs hle, List.getElem?_append, List.getElem?_append]
  have : min o cs.length = o := Nat.min_eq_left (by omega)
  simp only [List.length_append, List.length_take, List.getElem?_take, List.getElem?_drop, this]
  by_cases h1 : j < o
  · rw [if_pos (by omega), if_pos h1, if_pos h1, if_neg (by omega)]
  · by_cases h2 : j < o + vs.length
    · rw [if_pos h2, if_neg h1, if_pos (by omega)]
    · rw [if_neg h2, if_neg (by omega)]
      congr 1; omega
theorem splice_one (cur vs : List Value) (o : Nat) (h1 : ∀ v ∈ cur, v.oneCell' = true) (h2 : ∀ v ∈ vs, v.oneCell' = true) : ∀ v ∈ (cur.take o ++ vs ++ cur.drop (o + vs.length)).toArray, v.oneCell' = true := by
  intro v hv
  simp only [List.mem_toArray, List.mem_append] at hv
  rcases hv with (hv | hv) | hv
  · exact h1 v (List.mem_of_mem_take hv)
  · exact h2 v hv
  · exact h1 v (List.mem_of_mem_drop hv)

theorem store_sound {T : Ty} {t : TypeId} (hT : TyOk P t T) (hh : HeapRel w M β cp h) {x y : Operand} (ho : o.op = .store t x y) {X Y : AV} (hx : Rep w M β cp X (a.eval x)) (hy : Rep w M β cp Y (a.eval y)) :
    (aStore T h X Y).Sound (Good P o a w M β cp h nid) := by
  unfold aStore
  split
  · rename_i vs sz hc hs
    split
    · rename_i hsz
      rw [len_eq] at hsz
      have hsz := beq_iff.1 hsz
      obtain ⟨hr, h1⟩ := cells_rep hy hc
      have hvl : (a.eval y).cells.size = vs.length := by simpa using hr.1
      have hrun : ∀ ad w', a.eval x = .pointer (some ad) → (storeVar t ad (a.eval y)).run P w = .ok () w' → (execOp a.eval o).run P w = .ok .skip w' := by
        intro ad w' he hl
        simp [execOp, ho, Instr.storeAt, Instr.sureAddr, he, hl]
      split
      · rename_i b ofs
        obtain ⟨g, hg, he⟩ := rep_ptr hx
        split
        · rename_i cs hb
          split
          · rename_i hle
            rw [len_eq, len_eq] at hle
            have hle := ble_iff.1 hle
            have hb := nth_some hb rfl
            obtain ⟨g', cur, t', e1, e2, e3, e4, e5⟩ := hh.obj b _ hb
            rw [hg] at e1; cases e1
            have hl : cur.size = cs.length := by simpa using e4.1
            have hst := run_storeVar (v := a.eval y) (tySz_run hT hs) e3 (by omega) h1 (ofs := ofs) (by omega)
            obtain ⟨f1, f2, f3, f4, f5, f6⟩ := setRow_facts (w := w) (cur' := (cur.toList.take ofs ++ (a.eval y).cells.toList ++ cur.toList.drop (ofs + (a.eval y).cells.size)).toArray) e3
            refine ⟨_, undef, _, M, β, cp, hrun _ _ he hst, .inr ⟨rfl, rfl⟩, after_upd hh hb rfl rfl hg e2 f1 f2 f3 f4 f6 ⟨g, _, t', hg, e2, f5, ?_, ?_⟩, .c (.any _)⟩
            · have hk : ∀ k, k < w.heap.size → ¬ M k → (w.setRow g (cur.toList.take ofs ++ (a.eval y).cells.toList ++ cur.toList.drop (ofs + (a.eval y).cells.size)).toArray).heap[k]? = w.heap[k]? ∧ ¬ M k :=
                fun k hk hk' => ⟨f6 k (by rintro rfl; exact hk' e2), hk'⟩
              refine ⟨?_, fun j z hj => ?_⟩
              · rw [splice_eq _ _ _ hle]; simp; omega
              · rw [splice_avs _ _ _ _ hle] at hj
                have h3 := splice_vals cur.toList (a.eval y).cells.toList ofs j (by simp; omega)
                simp only [Array.length_toList] at h3
                show Rep _ _ _ _ z ((cur.toList.take ofs ++ (a.eval y).cells.toList ++ cur.toList.drop (ofs + (a.eval y).cells.size)).getD j undef)
                rw [h3]
                split
                · rename_i hc2
                  rw [hvl] at hc2
                  rw [if_pos hc2] at hj
                  exact (hr.2 _ _ hj).keep hk (fun _ _ => ⟨rfl, rfl⟩)
                · rename_i hc2
                  rw [hvl] at hc2
                  rw [if_neg hc2] at hj
                  exact (e4.2 _ _ hj).keep hk (fun _ _ => ⟨rfl, rfl⟩)
            · have := splice_one cur.toList (a.eval y).cells.toList ofs (by simpa using e5) h1
              simpa using this
          · trivial
        · trivial
      · rename_i b sz0 i ofs
        obtain ⟨g, hg, he⟩ := rep_ept hx
        split
        · rename_i et sz' n f hb
          split
          · rename_i q1 q2 q3
            rw [len_eq] at q2
            have q1 := beq_iff.1 q1
            have q2 := ble_iff.1 q2
            subst q1
            intro hlt
            have hlt : i () < n () := hlt
            have hb := nth_some hb rfl
            rcases hh.obj b _ hb with ⟨e1, _⟩ | ⟨g', cur, e1, e2, e3, e4, e5, e6, e7, e8, e9⟩
            · rw [hg] at e1; cases e1
            · rw [hg] at e1; cases e1
              have hlen := e8 (i ()) hlt
              have hsz2 : (i () + 1) * sz0 ≤ cur.size := by rw [e4]; exact Nat.mul_le_mul_right _ (by omega)
              rw [Nat.succ_mul] at hsz2
              have hst := run_storeVar (v := a.eval y) (tySz_run hT hs) e3 (by omega) h1 (ofs := i () * sz0 + ofs) (by omega)
              obtain ⟨f1, f2, f3, f4, f5, f6⟩ := setRow_facts (w := w) (cur' := (cur.toList.take (i () * sz0 + ofs) ++ (a.eval y).cells.toList ++ cur.toList.drop (i () * sz0 + ofs + (a.eval y).cells.size)).toArray) e3
              have hk : ∀ k, k < w.heap.size → ¬ M k → (w.setRow g (cur.toList.take (i () * sz0 + ofs) ++ (a.eval y).cells.toList ++ cur.toList.drop (i () * sz0 + ofs + (a.eval y).cells.size)).toArray).heap[k]? = w.heap[k]? ∧ ¬ M k :=
                fun k hk hk' => ⟨f6 k (by rintro rfl; exact hk' e2), hk'⟩
              refine ⟨_, undef, _, M, β, cp, hrun _ _ he hst, .inr ⟨rfl, rfl⟩, after_upd hh hb rfl rfl hg e2 f1 f2 f3 f4 f6 (.inr ⟨g, _, hg, e2, f5, ?_, ?_, e6, e7, ?_, ?_⟩), .c (.any _)⟩
              · simp; omega
              · intro k hk0
                have h3 := splice_vals cur.toList (a.eval y).cells.toList (i () * sz0 + ofs) k (by simp; omega)
                simp only [Array.length_toList] at h3
                rw [getD_list, h3]
                split
                · rename_i hc2
                  have hlt3 : k - (i () * sz0 + ofs) < (a.eval y).cells.toList.length := by simp; omega
                  rw [List.getD_eq_getElem?_getD, List.getElem?_eq_getElem hlt3]
                  exact h1 _ (List.getElem_mem hlt3)
                · rw [← getD_arr]; exact e5 k hk0
              · intro k hkn
                have h2 := e8 k hkn
                rw [pickL_len _ _ (by rw [splice_eq _ _ _ (by rw [h2]; omega)]; simp; omega)]
                exact h2
              · intro k j z hkn hj
                have h2 := e8 k hkn
                obtain ⟨p, q, p1, p2, rfl⟩ := pickL_get _ _ _ _ hj
                rw [splice_avs _ _ _ _ (by rw [h2]; omega)] at p1
                have h3 := splice_vals cur.toList (a.eval y).cells.toList (i () * sz0 + ofs) (k * sz0 + j) (by simp; omega)
                simp only [Array.length_toList] at h3
                have hjs : j < sz0 := by rw [← h2]; exact (List.getElem?_eq_some_iff.1 p2).1
                rw [getD_list, h3]
                refine pick_rep _ _ (fun hc => ?_) (fun hc => ?_)
                · have hki : k = i () := by simpa using hc
                  subst hki
                  by_cases hc2 : ofs ≤ j ∧ j < ofs + vs.length
                  · rw [if_pos hc2] at p1
                    rw [if_pos (by omega)]
                    have := closed_rep (hr.2 _ _ p1) (closedL_get q3 p1)
                    rw [show i () * sz0 + j - (i () * sz0 + ofs) = j - ofs by omega]
                    exact this.keep hk
                  · rw [if_neg hc2] at p1
                    rw [if_neg (by omega)]
                    have := e9 (i ()) j p hlt p1
                    rw [getD_arr] at this
                    exact this.keep hk
                · have hki : k ≠ i () := by simpa using hc
                  have hne : ¬ (i () * sz0 + ofs ≤ k * sz0 + j ∧ k * sz0 + j < i () * sz0 + ofs + vs.length) := by
                    rintro ⟨c1, c2⟩
                    rcases Nat.lt_or_gt_of_ne hki with hlt' | hgt
                    · have := Nat.mul_le_mul_right sz0 (show k + 1 ≤ i () by omega)
                      rw [Nat.succ_mul] at this
                      omega
                    · have := Nat.mul_le_mul_right sz0 (show i () + 1 ≤ k by omega)
                      rw [Nat.succ_mul] at this
                      omega
                  rw [if_neg (by rw [hvl]; exact hne)]
                  have := e9 k j q hkn p2
                  rw [getD_arr] at this
                  exact this.keep hk
          · trivial
        · trivial
      · trivial
    · trivial
  · trivial

end
end Go.Abs
