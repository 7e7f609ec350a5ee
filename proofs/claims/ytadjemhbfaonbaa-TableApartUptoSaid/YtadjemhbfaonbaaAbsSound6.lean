/- The abstract step is right: all operations. -/
import Derived.Test.YtadjemhbfaonbaaAbsSound5
import Derived.Laws.Externs
import Derived.Laws.BytesString
set_option linter.all false
namespace Go.Abs
open Go
section
variable {P : Program} {E : Env} {o : Oper} {a : Act} {w : World} {M : Nat → Prop} {β : Nat → Option Nat} {cp : Nat → Nat} {h : Hp} {s : Tm} {nid : Nat}

theorem run_newRow (t : TypeId) (cur : Array Value) : (newRow t cur).run P w = .ok ⟨w.heap.size, 0, none⟩ (w.alloc (.cells cur t)) := by
  simp only [newRow, Sem.run_bind, run_newObj, Result.andThen_ok, Sem.run_pure]; rfl

theorem buildSlice_sound {t e : TypeId} {sz bytes : Nat} {z : List AV} {x : Operand} {ps : Array (Nat × Operand)} (hT : TyOk P t (.slice e sz bytes z)) (hh : HeapRel w M β cp h) (hn : nid ≤ h.length) (hd : β nid = none)
    (ho : o.op = .buildSlice t 1 ps) (hps : ps.toList = [(0, x)]) {X : AV} (hx : Rep w M β cp X (a.eval x)) {cs : List AV} (hc : cells X = some cs) (hl : cs.length = sz) (hcl : closedL cs = true) :
    Good P o a w M β cp h nid (.own nid fun _ => 1) (.new (.vec e sz (fun _ => 1) fun _ => cs)) := by
  obtain ⟨hu, hsz, hsm, hi, _⟩ := hT
  obtain ⟨h1, h2⟩ := cells_rep hx hc
  have hvs : (a.eval x).cells.size = sz := by have := h1.1; simp at this; omega
  have hps' : ps = #[(0, x)] := Array.toList_inj.1 hps
  obtain ⟨zv, z1, _⟩ := run_zero (w := w) hi
  have hfill : ∀ cur : Array Value, cur.size = sz → Instr.fill (fun i => some (i * sz, sz)) cur [(0, a.eval x)] = some (a.eval x).cells := by
    intro cur hcur
    have := eqs cur (a.eval x).cells 0 (by omega)
    simp only [Instr.fill, Nat.zero_mul]
    rw [if_neg (by simp; omega), this]
    rw [List.drop_eq_nil_of_le (by simp; omega)]
    simp
  refine good_row hh hn hd (t := e) (sz := sz) (n := 1) (cur := (a.eval x).cells) 1 ?_ (by omega) (Nat.le_refl _) (by unfold maxLen; omega) (fun k hk => ?_) (fun i hi => hl) (fun i j y hi hj => ?_) rfl
  · have hsz0 : sz ≠ 0 := by omega
    have hb : ¬ 16777216 < sz := by omega
    simp [execOp, ho, Instr.buildSlice, run_underlying hu, run_sizeOf hi, hps', hsz0, z1, hb, hfill, run_newRow]
  · have hk' : k < (a.eval x).cells.size := by omega
    simp only [Array.getD, hk', dif_pos]
    exact h2 _ (by simp)
  · have hi0 : i = 0 := by omega
    subst hi0
    have := h1.2 j y hj
    have hc2 := closed_rep this (closedL_get hcl hj)
    rw [Nat.zero_mul, Nat.zero_add, getD_arr]
    exact hc2

theorem mkFs_get {sz : Nat} : ∀ (n o i : Nat), i < n → (mkFs sz o n).getD i (0, 0, 0) = (o + i * sz, 0, sz)
  | 0, o, i, h => by omega
  | n + 1, o, 0, _ => by simp [mkFs]
  | n + 1, o, i + 1, h => by
    have := mkFs_get (sz := sz) n (o + sz) i (by omega)
    simp only [mkFs, List.getD_cons_succ, this]
    rw [Nat.succ_mul]
    congr 1
    omega
theorem mkFs_len {sz : Nat} : ∀ (n o : Nat), (mkFs sz o n).length = n
  | 0, _ => rfl
  | n + 1, o => by simp [mkFs, mkFs_len n]
theorem replN_len {z : List AV} : ∀ (n : Nat), (replN n z).length = n * z.length
  | 0 => by simp [replN]
  | n + 1 => by simp [replN, replN_len n, Nat.succ_mul]; omega
theorem replN_get {z : List AV} (hz : 0 < z.length) : ∀ (n j : Nat) (x : AV), (replN n z)[j]? = some x → z[j % z.length]? = some x
  | 0, j, x, h => by simp [replN] at h
  | n + 1, j, x, h => by
    simp only [replN] at h
    rcases Nat.lt_or_ge j z.length with h1 | h1
    · rw [List.getElem?_append_left h1] at h
      rw [Nat.mod_eq_of_lt h1]; exact h
    · rw [List.getElem?_append_right h1] at h
      have := replN_get hz n _ x h
      rwa [← Nat.mod_eq_sub_mod h1] at this

theorem buildSliceN_sound {t e : TypeId} {n sz bytes : Nat} {z : List AV} {ps : Array (Nat × Operand)} (hT : TyOk P t (.slice e sz bytes z)) (hh : HeapRel w M β cp h) (hn : nid ≤ h.length) (hd : β nid = none)
    (ho : o.op = .buildSlice t n ps) (hx : ∀ x, Rep w M β cp (ev s x) (a.eval x)) (hz : z.length = sz) (hsm : n * sz ≤ 16777216) {out : List AV} (hf : fillA (mkFs sz 0 n) (replN n z) (ps.toList.map fun p => (p.1, ev s p.2)) = some out) (hcl : closedL out = true) :
    Good P o a w M β cp h nid (.own nid fun _ => n) (.new (.vec e sz (fun _ => n) (rowN sz out))) := by
  obtain ⟨hu, hsz, _, hi, _⟩ := hT
  obtain ⟨zv, z1, z2, z3⟩ := run_zero (w := w) hi
  have hzs : zv.cells.size = sz := by rw [← hz, ← z2]; simp
  have h0 : ∀ j, j < n * sz → ((Array.range (n * sz)).map fun i => zv.cells[i % zv.cells.size]!).getD j undef = zv.cells.toList.getD (j % sz) undef := by
    intro j hj
    have hm : j % zv.cells.size < zv.cells.size := Nat.mod_lt _ (by omega)
    have hr : (Array.range (n * sz))[j]? = some j := by simp [hj]
    rw [Array.getD_eq_getD_getElem?, Array.getElem?_map, hr]
    simp only [Option.map_some, Option.getD_some]
    rw [getElem!_pos (c := zv.cells) (i := j % zv.cells.size) hm]
    rw [hzs] at hm
    simp [hzs]
    rw [Array.getElem?_eq_getElem (by rw [hzs]; exact hm)]
    rfl
  obtain ⟨cur', r1, r2, r3⟩ := fill_ok (w := w) (M := M) (β := β) (cp := cp) (places := fun i => some (i * sz, sz)) (fs := mkFs sz 0 n)
    (fun i hi => by rw [mkFs_len] at hi; rw [mkFs_get n 0 i hi]; simp) (ps.toList.map fun p => (p.1, ev s p.2)) (ps.toList.map fun p => (p.1, a.eval p.2)) (replN n z) out ((Array.range (n * sz)).map fun i => zv.cells[i % zv.cells.size]!) hf (by simp)
    (fun j x v hj hj' => by
      simp only [List.getElem?_map, Option.map_eq_some_iff] at hj hj'
      obtain ⟨p, hp, rfl⟩ := hj
      obtain ⟨p', hp', rfl⟩ := hj'
      rw [hp] at hp'
      cases hp'
      exact hx _)
    ⟨by simp [replN_len, hz], fun j x hj => by
      have hjl : j < n * sz := by have := (List.getElem?_eq_some_iff.1 hj).1; rw [replN_len, hz] at this; exact this
      have h1 := replN_get (by omega) n j x hj
      rw [← getD_arr, h0 j hjl]
      rw [hz, ← z2] at h1
      exact (repL_zero zv.cells.toList).2 _ _ h1⟩
    (fun v hv => by
      obtain ⟨j, hj, rfl⟩ := List.getElem_of_mem hv
      have hjl : j < n * sz := by simpa using hj
      have h1 := h0 j hjl
      rw [getD_arr, List.getD_eq_getElem?_getD, List.getElem?_eq_getElem hj] at h1
      simp only [Option.getD_some] at h1
      rw [h1]
      have hm : j % sz < zv.cells.toList.length := by rw [Array.length_toList, hzs]; exact Nat.mod_lt _ hsz
      rw [List.getD_eq_getElem?_getD, List.getElem?_eq_getElem hm]
      exact z3 _ (List.getElem_mem hm))
  have hol : out.length = n * sz := by
    have h1 := r2.1
    have h2 : ∀ (ps : List (Nat × AV)) (cs out : List AV), fillA (mkFs sz 0 n) cs ps = some out → out.length = cs.length := by
      intro ps
      induction ps with
      | nil => intro cs out h; simp [fillA] at h; rw [h]
      | cons p ps ih =>
        intro cs out h
        obtain ⟨i, v⟩ := p
        simp only [fillA] at h
        split at h
        · split at h
          · rename_i q1 q2 q3
            rw [ih _ _ h, splice_eq _ _ _ (by have := ble_iff.1 q2; rw [len_eq, len_eq] at this; exact this)]
            have := ble_iff.1 q2
            rw [len_eq, len_eq] at this
            simp
            omega
          · cases h
        · cases h
    rw [h2 _ _ _ hf, replN_len, hz]
  have hcs : cur'.size = n * sz := by have := r2.1; simp at this; omega
  have hrow : ∀ i j, i < n → j < sz → i * sz + j < n * sz := by
    intro i j hi hj
    have := Nat.mul_le_mul_right sz (show i + 1 ≤ n by omega)
    rw [Nat.succ_mul] at this
    omega
  refine good_row hh hn hd (t := e) (sz := sz) (n := n) (cur := cur') n ?_ hcs (Nat.le_refl _) ?_ (fun k hk => ?_) (fun i hi => ?_) (fun i j y hi hj => ?_) rfl
  · have hb : ¬ 16777216 < n * sz := by omega
    by_cases hn0 : n * sz = 0
    · have e0 : (Array.map (fun x => (#[] : Array Value)[x % 0]!) (Array.range 0)) = #[] := by simp [show Array.range 0 = #[] from rfl]
      simp only [hn0] at r1
      have r1' : Instr.fill (fun i => some (i * sz, sz)) #[] (ps.map fun x => (x.1, a.eval x.2)).toList = some cur' := by simpa [show Array.range 0 = #[] from rfl] using r1
      simp [execOp, ho, Instr.buildSlice, run_underlying hu, run_sizeOf hi, hn0, show Array.range 0 = #[] from rfl]
      rw [show (List.map (fun x => (x.1, a.eval x.2)) ps.toList) = (ps.map fun x => (x.1, a.eval x.2)).toList by simp, r1']
      simp [run_newRow]
    · have r1' : Instr.fill (fun i => some (i * sz, sz)) ((Array.range (n * sz)).map fun i => zv.cells[i % zv.cells.size]!) (List.map (fun x => (x.1, a.eval x.2)) ps.toList) = some cur' := r1
      simp only [execOp, ho, Instr.buildSlice, Sem.run_bind, run_underlying hu, Result.andThen_ok, run_sizeOf hi, if_neg hb, if_neg hn0, z1, Sem.run_pure]
      rw [Array.toList_map, r1']
      simp [run_newRow]
  · have : n ≤ n * sz := Nat.le_mul_of_pos_right n hsz
    unfold maxLen; omega
  · have hk' : k < cur'.toList.length := by rw [Array.length_toList]; omega
    rw [getD_arr, List.getD_eq_getElem?_getD, List.getElem?_eq_getElem hk']
    exact r3 _ (List.getElem_mem hk')
  · unfold rowN
    rw [takeN_eq, dropN_eq, List.length_take, List.length_drop, hol]
    have := hrow i (sz - 1) hi (by omega)
    dsimp only
    omega
  · unfold rowN at hj
    rw [takeN_eq, dropN_eq, List.getElem?_take] at hj
    split at hj
    · rename_i hjs
      rw [List.getElem?_drop] at hj
      have := closed_rep (r2.2 _ y hj) (closedL_get hcl hj)
      rw [getD_arr]
      exact this
    · cases hj

theorem buildSlice0_sound {t e : TypeId} {sz bytes : Nat} {z : List AV} {ps : Array (Nat × Operand)} (hT : TyOk P t (.slice e sz bytes z)) (hh : HeapRel w M β cp h) (hn : nid ≤ h.length) (hd : β nid = none)
    (ho : o.op = .buildSlice t 0 ps) (hps : ps.toList = []) : Good P o a w M β cp h nid (.own nid fun _ => 0) (.new (.vec e sz (fun _ => 0) fun _ => [])) := by
  obtain ⟨hu, hsz, hsm, hi, _⟩ := hT
  have hps' : ps = #[] := Array.toList_inj.1 hps
  refine good_row hh hn hd (t := e) (sz := sz) (n := 0) (cur := #[]) 0 ?_ (by simp) (Nat.le_refl _) (by unfold maxLen; omega) (fun k hk => by omega) (fun i hi => by omega) (fun i j y hi hj => by omega) rfl
  simp [execOp, ho, Instr.buildSlice, run_underlying hu, run_sizeOf hi, hps', Instr.fill, run_newRow, show Array.range 0 = #[] from rfl]

theorem makeSlice_sound {t e : TypeId} {sz bytes : Nat} {z : List AV} {x y : Operand} (hT : TyOk P t (.slice e sz bytes z)) (hh : HeapRel w M β cp h) (hn : nid ≤ h.length) (hd : β nid = none)
    (ho : o.op = .makeSlice t x y) {k k' : IntKind} {n c : Th Int} (hx : Rep w M β cp (.i k n) (a.eval x)) (hy : Rep w M β cp (.i k' c) (a.eval y)) (hl : z.length = sz) (hcl : closedL z = true)
    (h0 : 0 ≤ n ()) (h1 : n () ≤ c ()) (h2 : (bytes : Int) * c () ≤ 281474976710656) (h3 : c () ≤ 9223372036854775807) :
    Good P o a w M β cp h nid (.own nid fun _ => (n ()).toNat) (.new (.vec e sz (fun _ => (n ()).toNat) fun _ => z)) := by
  obtain ⟨hu, hsz, hsm, hi, hby, _⟩ := hT
  have ex := rep_i hx
  have ey := rep_i hy
  obtain ⟨zv, z1, z2, z3⟩ := run_zero (w := w) hi
  have hzs : zv.cells.size = sz := by rw [← hl, ← z2]; simp
  obtain ⟨inf, i1, i2, _⟩ := hi
  have ib : inf.bytes = bytes := by rw [i1] at hby; simpa using hby
  have hrow : ∀ (i j : Nat), i < (c ()).toNat → j < sz → ((Array.range ((c ()).toNat * sz)).map fun i => zv.cells[i % zv.cells.size]!).getD (i * sz + j) undef = zv.cells.toList.getD j undef := by
    intro i j hi hj
    have hlt : i * sz + j < (c ()).toNat * sz := by
      have := Nat.mul_le_mul_right sz (show i + 1 ≤ (c ()).toNat by omega)
      rw [Nat.succ_mul] at this
      omega
    have hm : (i * sz + j) % zv.cells.size = j := by rw [hzs, Nat.mul_comm, Nat.mul_add_mod, Nat.mod_eq_of_lt hj]
    have hj' : j < zv.cells.size := by omega
    have hr : (Array.range ((c ()).toNat * sz))[i * sz + j]? = some (i * sz + j) := by simp [hlt]
    rw [Array.getD_eq_getD_getElem?, Array.getElem?_map, hr]
    simp only [Option.map_some, Option.getD_some, hm]
    rw [getElem!_pos (c := zv.cells) (i := j) hj']
    simp [hj']
  refine good_row hh hn hd (t := e) (sz := sz) (n := (n ()).toNat) (cur := (Array.range ((c ()).toNat * sz)).map fun i => zv.cells[i % zv.cells.size]!) (c ()).toNat ?_ (by simp) (by omega) (by unfold maxLen; omega) ?_ (fun i hi => hl) (fun i j y hi hj => ?_) rfl
  · have w1 : IntKind.i64.wrap (n ()) = n () := wrap64_in ⟨by omega, by omega⟩
    have w2 : IntKind.i64.wrap (c ()) = c () := wrap64_in ⟨by omega, by omega⟩
    have hc0 : ¬ c () < 0 := by omega
    have hn0 : ¬ n () < 0 := by omega
    have hnc : ¬ n () > c () := by omega
    have hbc : ¬ 281474976710656 < (bytes : Int) * c () := by omega
    by_cases hz : (c ()).toNat * sz = 0
    · simp [execOp, ho, Instr.makeSlice, run_underlying hu, ex, ey, asInt, asIntOf, typeInfo, i1, ib, w1, w2, hc0, hn0, hnc, hbc, sizeOf, i2, hz, run_newRow, show Array.range 0 = #[] from rfl]
    · simp [execOp, ho, Instr.makeSlice, run_underlying hu, ex, ey, asInt, asIntOf, typeInfo, i1, ib, w1, w2, hc0, hn0, hnc, hbc, sizeOf, i2, hz, run_newRow, z1]
  · intro k hk
    have hk2 : k / sz < (c ()).toNat := by
      have := Nat.div_lt_of_lt_mul (show k < sz * (n ()).toNat by rw [Nat.mul_comm]; exact hk)
      omega
    have hj : k % sz < sz := Nat.mod_lt _ hsz
    have := hrow (k / sz) (k % sz) hk2 hj
    rw [show k / sz * sz + k % sz = k by rw [Nat.mul_comm]; exact Nat.div_add_mod k sz] at this
    rw [this, List.getD_eq_getElem?_getD, List.getElem?_eq_getElem (by simp; omega)]
    exact z3 _ (List.getElem_mem _)
  · have hjl : j < sz := by rw [← hl]; exact (List.getElem?_eq_some_iff.1 hj).1
    rw [hrow i j (by omega) hjl]
    have := (repL_zero (w := w) (M := M) (β := fun _ => none) (cp := fun _ => 0) zv.cells.toList).2 j y (by rw [z2]; exact hj)
    exact closed_rep this (closedL_get hcl hj)

theorem pick_rep2 {c : Th Bool} {v : Value} (x y : AV) (hx : c () = true → Rep w M β cp x v) (hy : c () = false → Rep w M β cp y v) : Rep w M β cp (AV.pick c x y) v := by
  unfold AV.pick
  split
  all_goals first
    | exact .ite _ _ _ _ hx hy
    | (refine .c ?_
       cases hc : c () with
       | true =>
         have h1 := hx hc
         cases h1 with
         | c h1 =>
           cases h1
           simp only [hc, cond_true]
           first | exact .i _ _ | exact .b _ | exact .s _ | exact .b (fun _ => _)
       | false =>
         have h1 := hy hc
         cases h1 with
         | c h1 =>
           cases h1
           simp only [hc, cond_false]
           first | exact .i _ _ | exact .b _ | exact .s _ | exact .b (fun _ => _))

theorem sOf_fold (g : Nat → Int) (n : Nat) : ((List.range n).map g).foldl (fun (r : ByteArray) n => r.push (UInt8.ofNat n.toNat)) ByteArray.empty = sOf n g := by
  have key : ∀ (l : List Int) (s : ByteArray), l.foldl (fun (r : ByteArray) n => r.push (UInt8.ofNat n.toNat)) s = ⟨s.data ++ (l.map fun n => UInt8.ofNat n.toNat).toArray⟩ := by
    intro l
    induction l with
    | nil => intro s; simp
    | cons x l ih => intro s; rw [List.foldl_cons, ih]; simp [ByteArray.push]
  rw [key]
  unfold sOf
  simp [ByteArray.empty, ByteArray.emptyWithCapacity, Function.comp_def]
  rfl
/-- Bytes, as a text. -/
theorem toStr_sound {t t' e : TypeId} {x : Operand} {X : AV} (hh : HeapRel w M β cp h) (ho : o.op = .convert t t' x) (h1 : P.underlying t = some (.slice e)) (h2 : P.underlying t' = some .string) (h3 : P.underlying e = some (.int .u8))
    (hx : Rep w M β cp X (a.eval x)) : (aToStr h X).Sound (Good P o a w M β cp h nid) := by
  have run : ∀ (ad : Option Addr) (l c : Nat) (v : ByteArray), a.eval x = .slice ad l c → (Conv.bytesToString (.slice ad l c)).run P w = .ok (.string v) w → (execOp a.eval o).run P w = .ok (.value (.string v)) w := by
    intro ad l c v he hr
    simp [execOp, ho, he, run_convert_bytes_string w t t' e ad l c h1 h3 h2, hr]
  have cells : ∀ (ad : Addr) (n c : Nat) (g : Nat → Int) (u : Nat → Value), (∀ i, i < n → w.cell? (ad.add i) = some (u i)) → (∀ i, i < n → u i = .int .u8 (g i)) → (Conv.bytesToString (.slice (some ad) n c)).run P w = .ok (.string (sOf n g)) w := by
    intro ad n c g u hc hu
    rw [← sOf_fold g n]
    refine run_bytesToString w ad n c _ ?_
    rw [run_loadCells w ad n u hc]
    congr 2
    rw [List.map_map]
    exact List.map_congr_left fun i hi => hu i (by simpa using hi)
  have one : ∀ {l : List AV} {v : Value}, isU8 l = true → (∀ (j : Nat) (y : AV), l[j]? = some y → RepC w M y (if j = 0 then v else undef)) → v = .int .u8 (u8At l) := by
    intro l v hl hr
    unfold isU8 at hl
    split at hl
    · rename_i n
      have := hr 0 _ rfl
      cases this; rfl
    · cases hl
  unfold aToStr
  split
  · have hv := rep_nil hx
    exact good_val hh (v' := .string .empty) (run _ _ _ _ hv (by simp [Conv.bytesToString])) (.c (.s fun _ => .empty))
  · rename_i sz n f
    split
    · rename_i q
      have q := beq_iff.1 q
      subst q
      intro hp
      have hp : ∀ i, i < n () → isU8 (f fun _ => i) = true := hp
      obtain ⟨ad, c, he, hc, hm, hr⟩ := rep_sl hx
      refine good_val hh (v' := .string (sOf (n ()) fun i => u8At (f fun _ => i))) ?_ (.c (.s fun _ => sOf (n ()) fun i => u8At (f fun _ => i)))
      by_cases h0 : n () = 0
      · cases ad with
        | none => exact run _ _ _ _ he (by rw [h0]; simp [Conv.bytesToString, sOf, ByteArray.empty, ByteArray.emptyWithCapacity]; try rfl)
        | some ad => exact run _ _ _ _ he (cells ad _ c _ (fun _ => undef) (fun i hi => by omega) (fun i hi => by omega))
      · obtain ⟨ad', u, rfl, hM, hs, hl, hcell, ho1, hrep⟩ := hr (by omega)
        refine run _ _ _ _ he (cells ad' _ c _ (fun i => u i 0) (fun i hi => by have := hcell i 0 hi (by omega); simpa using this) fun i hi => ?_)
        exact one (hp i hi) fun j y hj => by
          have hlj : j < 1 := by rw [← hl i hi]; exact (List.getElem?_eq_some_iff.1 hj).1
          have : j = 0 := by omega
          subst this
          exact hrep i 0 y hi hj
    · trivial
  · rename_i b n
    split
    · rename_i e' sz m f hb
      split
      · rename_i q
        have q := beq_iff.1 q
        subst q
        rintro ⟨hnm, hp⟩
        refine good_val hh (v' := .string (sOf (n ()) fun i => u8At (f fun _ => i))) ?_ (.c (.s fun _ => sOf (n ()) fun i => u8At (f fun _ => i)))
        rcases rep_own hx with ⟨h0, he⟩ | ⟨g, hg, hn, he⟩
        · exact run _ _ _ _ he (by rw [h0]; simp [Conv.bytesToString, sOf, ByteArray.empty, ByteArray.emptyWithCapacity]; try rfl)
        · rcases hh.obj b _ (nth_some hb rfl) with ⟨e1, _⟩ | ⟨g', cur, e1, e2, e3, e4, e5, e6, e7, e8, e9⟩
          · rw [hg] at e1; cases e1
          · rw [hg] at e1; cases e1
            refine run _ _ _ _ he (cells _ _ _ _ (fun i => cur.getD i undef) (fun i hi => ?_) fun i hi => ?_)
            · have h3 : i < cur.size := by omega
              rw [addr_add, Nat.zero_add, cell_of_row e3 h3]
              simp [h3]
            · exact one (hp i hi) fun j y hj => by
                have hlj : j < 1 := by rw [← e8 i (by omega)]; exact (List.getElem?_eq_some_iff.1 hj).1
                have : j = 0 := by omega
                subst this
                have := e9 i 0 y (by omega) hj
                simpa using this
      · trivial
    · trivial
  · trivial
/-- An array, laid of its elements. -/
theorem buildArr_sound {t : TypeId} {r : Arr} {ps : Array (Nat × Operand)} (hT : ArrOk P t r) (hh : HeapRel w M β cp h) (ho : o.op = .build t ps) (hx : ∀ x, Rep w M β cp (ev s x) (a.eval x)) (hz : r.z.length = r.sz) {out : List AV}
    (hf : fillA (mkFs r.sz 0 r.n) (replN r.n r.z) (ps.toList.map fun p => (p.1, ev s p.2)) = some out) : Good P o a w M β cp h nid (.agg out) .no := by
  obtain ⟨e, hu, ⟨i, zv, hi, z1, z2, z3⟩, he, _⟩ := hT
  obtain ⟨cur', r1, r2, r3⟩ := fill_ok (w := w) (M := M) (β := β) (cp := cp) (places := fun i => some (i * r.sz, r.sz)) (fs := mkFs r.sz 0 r.n)
    (fun i hi => by rw [mkFs_len] at hi; rw [mkFs_get r.n 0 i hi]; simp) (ps.toList.map fun p => (p.1, ev s p.2)) (ps.toList.map fun p => (p.1, a.eval p.2)) (replN r.n r.z) out zv.cells hf (by simp)
    (fun j x v hj hj' => by
      simp only [List.getElem?_map, Option.map_eq_some_iff] at hj hj'
      obtain ⟨p, hp, rfl⟩ := hj
      obtain ⟨p', hp', rfl⟩ := hj'
      rw [hp] at hp'
      cases hp'
      exact hx _)
    (by rw [← z2]; exact repL_zero _) (fun v hv => by have := List.all_eq_true.1 z3 v hv; simpa using this)
  refine good_val hh (v' := .agg cur') ?_ (.agg _ _ (by simpa using r2.1) (fun v hv => r3 v (by simpa using hv)) fun j x hj => by rw [getD_arr]; exact r2.2 j x hj)
  have hzr : (zeroValue t).run P w = .ok zv w := by simp [zeroValue, typeInfo, hi, z1]
  have r1' : Instr.fill (fun i => some (i * r.sz, r.sz)) zv.cells ((ps.map fun x => (x.1, a.eval x.2)).toList) = some cur' := by simpa using r1
  simp only [execOp, ho, Instr.build, Sem.run_bind, hzr, Result.andThen_ok, run_underlying hu, run_sizeOf he, r1']
  rfl
theorem sub64_sound {c : Call} {f : FuncId} {x y z : Operand} (hS : SubOk P f) (hh : HeapRel w M β cp h) (ho : o.op = .call c) (hc : c.callee = .value (.func f)) (ha : c.args.toList = [x, y, z])
    {X Y Z : AV} (hx : Rep w M β cp X (a.eval x)) (hy : Rep w M β cp Y (a.eval y)) (hz : Rep w M β cp Z (a.eval z)) : (aSub64 X Y Z).Sound (Good P o a w M β cp h nid) := by
  unfold aSub64
  split
  · rename_i x' y' z'
    rintro ⟨h1, h2, h3, h4⟩
    obtain ⟨fn, f1, f2, f3, f4, f5⟩ := hS
    have hargs : c.args = #[x, y, z] := Array.toList_inj.1 ha
    have hv1 := rep_i hx
    have hv2 := rep_i hy
    have hv3 := rep_i hz
    have e1 : ((x' ()).toNat : Int) = x' () := Int.toNat_of_nonneg h1
    have e2 : ((y' ()).toNat : Int) = y' () := Int.toNat_of_nonneg h2
    have hrun := run_callFunc_extern (P := P) f1 (by rw [f2]; rfl) (by rw [f3]; rfl) f4 f5 #[a.eval x, a.eval y, a.eval z] w
    have h0 : (sub64E #[.int .u64 (x' ()), .int .u64 (y' ()), .int .u64 0]).run P w = .ok (.tuple #[.int .u64 (((x' ()).toNat + 18446744073709551616 - (y' ()).toNat - 0) % 18446744073709551616 : Nat), .int .u64 ((if (x' ()).toNat < (y' ()).toNat + 0 then 1 else 0 : Nat) : Int)]) w := rfl
    refine good_val hh (v' := .tuple #[.int .u64 ((x' () + 18446744073709551616 - y' ()) % 18446744073709551616), .int .u64 (if x' () < y' () then 1 else 0)]) ?_ (.c (.tup _ _ rfl fun j X hj => ?_))
    · have e3 : (((x' ()).toNat + 18446744073709551616 - (y' ()).toNat - 0) % 18446744073709551616 : Nat) = ((x' () + 18446744073709551616 - y' ()) % 18446744073709551616 : Int) := by omega
      have e4 : ((if (x' ()).toNat < (y' ()).toNat + 0 then 1 else 0 : Nat) : Int) = if x' () < y' () then 1 else 0 := by
        by_cases q : x' () < y' ()
        · rw [if_pos q, if_pos (by omega)]; rfl
        · rw [if_neg q, if_neg (by omega)]; rfl
      rw [hv1, hv2, hv3, h4, h0, e3, e4] at hrun
      have hm : c.args.map a.eval = #[.int .u64 (x' ()), .int .u64 (y' ()), .int .u64 0] := by rw [hargs]; simp [hv1, hv2, hv3, h4]
      have he : a.eval (.func f) = .func (.func f) #[] #[] := rfl
      simp [execOp, ho, resolve, hc, he, Deferred.ofValue, invoke, hm, hrun, Result.andThen]
    · rcases j with _ | _ | j
      · cases hj; exact .i _ _
      · cases hj; exact .i _ _
      · simp at hj
  · trivial
theorem step_sound (hE : EnvOk P E) (hh : HeapRel w M β cp h) (hn : nid ≤ h.length) (hd : β nid = none) (hx : ∀ x, Rep w M β cp (ev s x) (a.eval x)) :
    (step E o s h nid).Sound (Good P o a w M β cp h nid) := by
  cases ho : o.op with
  | move x => simp only [step, ho]; exact good_val hh (by simp [execOp, ho]) (hx x)
  | assign x => simp only [step, ho]; exact good_val hh (by simp [execOp, ho]) (hx x)
  | pick c x y =>
    simp only [step, ho]
    have hc := hx c
    split
    · rename_i he
      rw [he] at hc
      exact good_val hh (by simp [execOp, ho, rep_bc hc, asBool]) (hx x)
    · rename_i he
      rw [he] at hc
      exact good_val hh (by simp [execOp, ho, rep_bc hc, asBool]) (hx y)
    · rename_i q he
      rw [he] at hc
      refine good_val hh (v' := if q () then a.eval x else a.eval y) (by simp [execOp, ho, rep_b hc, asBool]) ?_
      refine pick_rep2 _ _ (fun hc => ?_) (fun hc => ?_)
      · rw [if_pos hc]; exact hx x
      · rw [if_neg (by simp [hc])]; exact hx y
    · trivial
  | alloc t =>
    simp only [step, ho]
    split
    · rename_i z hz; exact alloc_sound (hE.ty t) hh hn hd ho hz
    · trivial
  | box t x =>
    simp only [step, ho]
    split
    · rename_i cs hc; exact box_sound hh hn hd ho (hx x) hc
    · trivial
  | build t ps =>
    simp only [step, ho]
    split
    · rename_i fl fs sz z hT
      split
      · rename_i cs hc hpos
        have := hE.ty t
        rw [hT] at this
        exact build_sound this hh hpos ho hx hc
      · trivial
    · split
      · rename_i r hr
        split
        · rename_i cs q1 hc
          have q1 := beq_iff.1 q1
          rw [len_eq] at q1
          exact buildArr_sound (hE.ar t r hr) hh ho hx q1 hc
        · trivial
      · trivial
    · trivial
  | buildSlice t n ps =>
    simp only [step, ho]
    split
    · rename_i e sz b z hT
      have hTy := hE.ty t
      rw [hT] at hTy
      split
      · rename_i hps; exact buildSlice0_sound hTy hh hn hd ho hps
      · rename_i x hps
        split
        · rename_i cs hc
          split
          · rename_i q1 q2
            rw [len_eq] at q1
            exact buildSlice_sound hTy hh hn hd ho hps (hx x) hc (beq_iff.1 q1) q2
          · trivial
        · trivial
      · split
        · rename_i out q1 q2 q3
          split
          · rename_i q4
            have q1 := beq_iff.1 q1
            rw [len_eq] at q1
            exact buildSliceN_sound hTy hh hn hd ho hx q1 (ble_iff.1 q2) q3 q4
          · trivial
        · trivial
    · trivial
  | makeSlice t x y =>
    simp only [step, ho]
    split
    · rename_i e sz b z k n k' c hT hn' hc'
      have hTy := hE.ty t
      rw [hT] at hTy
      split
      · rename_i q1 q2
        rw [len_eq] at q1
        rintro ⟨g0, g1, g2, g3⟩
        exact makeSlice_sound hTy hh hn hd ho (hn' ▸ hx x) (hc' ▸ hx y) (beq_iff.1 q1) q2 g0 g1 g2 g3
      · trivial
    · trivial
  | load t x => simp only [step, ho]; exact load_sound (hE.ty t) hh ho (hx x)
  | store t x y => simp only [step, ho]; exact store_sound (hE.ty t) hh ho (hx x) (hx y)
  | nilCheck x =>
    simp only [step, ho]
    have h1 := hx x
    split
    · rename_i b p he
      rw [he] at h1
      obtain ⟨g, hg, hv⟩ := rep_ptr h1
      exact good_val hh (by simp [execOp, ho, hv]) (.ptr b p g hg)
    · rename_i b sz i p he
      rw [he] at h1
      obtain ⟨g, hg, hv⟩ := rep_ept h1
      exact good_val hh (by simp [execOp, ho, hv]) (.ept b sz i p g hg)
    · rename_i l he
      rw [he] at h1
      obtain ⟨ad, u, hv, _⟩ := rep_rp h1
      exact good_val hh (v' := a.eval x) (by simp [execOp, ho, hv]) h1
    · trivial
  | binOp op t x y t' => simp only [step, ho]; exact bin_sound (hE.ty t) hh ho (hx x) (hx y)
  | unOp op t x =>
    simp only [step, ho]
    have h1 := hx x
    split
    · rename_i q he
      rw [he] at h1
      exact good_val hh (v' := .bool (!(q ()))) (by simp [execOp, ho, rep_b h1, Op.unary]) (.c (.b fun _ => !(q ())))
    · rename_i he
      rw [he] at h1
      exact good_val hh (v' := .bool false) (by simp [execOp, ho, rep_bc h1, Op.unary]) (.c (.bc false))
    · rename_i he
      rw [he] at h1
      exact good_val hh (v' := .bool true) (by simp [execOp, ho, rep_bc h1, Op.unary]) (.c (.bc true))
    · rename_i q he
      rw [he] at h1
      split
      · intro hr
        exact good_val hh (v' := .int .i64 (0 - q ())) (by simp only [execOp, ho, rep_i h1, Op.unary, Op.intArith]; simp only [wrap64_in hr]; rfl) (.c (.i .i64 fun _ => 0 - q ()))
      · exact good_val hh (v' := .int .i64 (IntKind.i64.wrap (0 - q ()))) (by simp only [execOp, ho, rep_i h1, Op.unary, Op.intArith]; rfl) (.c (.i .i64 fun _ => IntKind.i64.wrap (0 - q ())))
    · rename_i k q he
      rw [he] at h1
      exact good_val hh (v' := .int k (bXor k (if k.signed then -1 else k.max) (q ()))) (by simp [execOp, ho, rep_i h1, Op.unary, Op.intBits, bXor]) (.c (.i k fun _ => bXor k (if k.signed then -1 else k.max) (q ())))
    · trivial
  | convert t t' x =>
    simp only [step, ho]
    have h1 := hx x
    split
    · rename_i k0 k k' q hT0 hT he
      rw [he] at h1
      have hTy := hE.ty t'
      rw [hT] at hTy
      have hu := hTy.1
      have hTy0 := hE.ty t
      rw [hT0] at hTy0
      refine good_val hh (v' := .int k (k.wrap (q ()))) ?_ (.c (.i k fun _ => k.wrap (q ())))
      simp [execOp, ho, convert, run_underlying hTy0.1, run_underlying hu, rep_i h1, Conv.intToInt]
    · rename_i v hT0 hT he
      rw [he] at h1
      have hTy := hE.ty t'
      rw [hT] at hTy
      have hTy0 := hE.ty t
      rw [hT0] at hTy0
      refine good_val hh (v' := .string (v ())) ?_ (.c (.s v))
      simp [execOp, ho, convert, run_underlying hTy0.1, run_underlying hTy.1, rep_s h1]
    · rename_i e sz bs z hT0 hT
      have hTy := hE.ty t'
      rw [hT] at hTy
      have hTy0 := hE.ty t
      rw [hT0] at hTy0
      split
      · rename_i he
        have hTe := hE.ty e
        rw [he] at hTe
        exact toStr_sound hh ho hTy0.1 hTy.1 hTe.1 h1
      · trivial
    · trivial
  | fieldAddr t x k =>
    simp only [step, ho]
    split
    · rename_i fl fs sz z hT
      have hTy := hE.ty t
      rw [hT] at hTy
      split
      · rename_i ofs tt n hf hk
        rw [len_eq] at hk
        have hk := blt_iff.1 hk
        split
        · rename_i b p q1 he
          exact fieldAddr_sound hTy hh ho (hx x) hf hk (blt_iff.1 q1) (.inl ⟨b, p, he, rfl⟩)
        · rename_i b q j p q1 he
          exact fieldAddr_sound hTy hh ho (hx x) hf hk (blt_iff.1 q1) (.inr (.inl ⟨b, q, j, p, he, rfl⟩))
        · rename_i l q1 he
          split
          · rename_i q2
            rw [len_eq] at q2
            exact fieldAddr_sound hTy hh ho (hx x) hf hk (blt_iff.1 q1) (.inr (.inr ⟨l, he, blt_iff.1 q2, by rw [dropN_eq]⟩))
          · trivial
        · trivial
      · trivial
    · trivial
  | indexAddr t x y =>
    simp only [step, ho]
    split
    · rename_i e sz b z hT
      have hTy := hE.ty t
      rw [hT] at hTy
      split
      · rename_i sz' n f k i he hi
        split
        · rename_i q1
          have q1 := beq_iff.1 q1
          subst q1
          rintro ⟨g1, g2⟩
          exact index_sound hTy hh ho (hx x) (hi ▸ hx y) (.inl ⟨n, f, he, g1, g2, rfl⟩)
        · trivial
      · rename_i b' n k i he hi
        split
        · split
          · rintro ⟨g1, g2⟩
            exact index_sound hTy hh ho (hx x) (hi ▸ hx y) (.inr (.inl ⟨b', n, he, g1, g2, rfl⟩))
          · trivial
        · trivial
      · rename_i b' sz' p n k i he hi
        split
        · rename_i q1
          have q1 := beq_iff.1 q1
          subst q1
          rintro ⟨g1, g2⟩
          exact index_sound hTy hh ho (hx x) (hi ▸ hx y) (.inr (.inr ⟨b', p, n, he, g1, g2, rfl⟩))
        · trivial
      · trivial
    · trivial
  | index t x y =>
    simp only [step, ho]
    have h1 := hx x
    have h2 := hx y
    split
    · rename_i v k i hT he hi
      rw [he] at h1
      rw [hi] at h2
      have hTy := hE.ty t
      rw [hT] at hTy
      rintro ⟨g1, g2⟩
      refine good_val hh (v' := .int .u8 (byteAt (v ()) (i ()))) ?_ (.c (.i .u8 fun _ => byteAt (v ()) (i ())))
      have g3 : (i ()).toNat < (v ()).size := by omega
      have g4 : (v ())[(i ()).toNat]? = some ((v ())[(i ()).toNat]'g3) := getElem?_pos (v ()) (i ()).toNat g3
      have g5 : ((v ()).data.getD (i ()).toNat 0) = (v ())[(i ()).toNat]'g3 := by
        have : (i ()).toNat < (v ()).data.size := g3
        rw [Array.getD_eq_getD_getElem?, Array.getElem?_eq_getElem this]; rfl
      simp [execOp, ho, Instr.index, rep_i h2, rep_s h1, asIntOf, run_underlying hTy.1, g1, g4, byteAt, g5]
    · trivial
  | extract x k =>
    simp only [step, ho]
    split
    · rename_i l he
      split
      · rename_i q
        rw [len_eq] at q
        exact extract_sound hh ho (he ▸ hx x) (blt_iff.1 q)
      · trivial
    · trivial
  | slice t x lo hi mx =>
    simp only [step, ho]
    split
    · exact slice_sound (hE.ty t) hh ho hx
    · exact slice3_sound (hE.ty t) hh ho hx
  | call c =>
    simp only [step, ho]
    split
    · rename_i hc
      split
      · rename_i t x hta ha
        split
        · rename_i e sz b z hT
          split
          · rename_i sz' n f he
            exact len_sound hh ho hc ha (by rw [← Array.getElem?_toList, hta]; rfl) (hE.ty t) (hx x) (.inl ⟨⟨_, _, _, _, hT⟩, .inl ⟨_, _, _, he, rfl⟩⟩)
          · rename_i b n he
            exact len_sound hh ho hc ha (by rw [← Array.getElem?_toList, hta]; rfl) (hE.ty t) (hx x) (.inl ⟨⟨_, _, _, _, hT⟩, .inr (.inl ⟨_, _, he, rfl⟩)⟩)
          · rename_i b sz' p n he
            exact len_sound hh ho hc ha (by rw [← Array.getElem?_toList, hta]; rfl) (hE.ty t) (hx x) (.inl ⟨⟨_, _, _, _, hT⟩, .inr (.inr (.inr (.inl ⟨_, _, _, _, he, rfl⟩)))⟩)
          · rename_i b n he
            exact len_sound hh ho hc ha (by rw [← Array.getElem?_toList, hta]; rfl) (hE.ty t) (hx x) (.inl ⟨⟨_, _, _, _, hT⟩, .inr (.inr (.inr (.inr ⟨_, _, he, rfl⟩)))⟩)
          · rename_i he
            exact len_sound hh ho hc ha (by rw [← Array.getElem?_toList, hta]; rfl) (hE.ty t) (hx x) (.inl ⟨⟨_, _, _, _, hT⟩, .inr (.inr (.inl ⟨he, rfl⟩))⟩)
          · trivial
        · rename_i hT
          split
          · rename_i v he
            exact len_sound hh ho hc ha (by rw [← Array.getElem?_toList, hta]; rfl) (hE.ty t) (hx x) (.inr ⟨hT, _, he, rfl⟩)
          · trivial
        · trivial
      · trivial
    · rename_i f hc
      split
      · rename_i g hg
        split
        · rename_i q
          have q := beq_iff.1 q
          subst q
          split
          · rename_i x y z ha; exact sub64_sound (hE.su _ hg) hh ho hc ha (hx x) (hx y) (hx z)
          · trivial
        · trivial
      · trivial
    · rename_i hc
      split
      · rename_i x y ha; exact minmax_sound (mx := true) hh ho hc ha (hx x) (hx y)
      · trivial
    · rename_i hc
      split
      · rename_i x y ha; exact minmax_sound (mx := false) hh ho hc ha (hx x) (hx y)
      · trivial
    · trivial
  | _ => simp only [step, ho]; trivial

end
end Go.Abs
