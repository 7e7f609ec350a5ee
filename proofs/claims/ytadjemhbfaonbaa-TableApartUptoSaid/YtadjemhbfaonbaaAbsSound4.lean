/- The abstract step is right: all operations. -/
import Derived.Test.YtadjemhbfaonbaaAbsSound3
import Derived.Laws.Strings
set_option linter.all false
namespace Go.Abs
open Go
section
variable {P : Program} {E : Env} {o : Oper} {a : Act} {w : World} {M : Nat → Prop} {β : Nat → Option Nat} {cp : Nat → Nat} {h : Hp} {s : Tm} {nid : Nat}

/-- A new variable. -/
theorem good_new (hh : HeapRel w M β cp h) (hn : nid ≤ h.length) (hd : β nid = none) {t : TypeId} {cs : List AV} {cur : Array Value}
    (hr : (execOp a.eval o).run P w = .ok (.value (.pointer (some ⟨w.heap.size, 0, none⟩))) (w.alloc (.cells cur t))) (hc : RepL w M β cp cs cur.toList) (h1 : ∀ v ∈ cur.toList, v.oneCell' = true) :
    Good P o a w M β cp h nid (.ptr nid 0) (.new (.blk cs)) := by
  have hk : ∀ k, k < w.heap.size → ¬ M k → (w.alloc (.cells cur t)).heap[k]? = w.heap[k]? ∧ ¬ (M k ∨ k = w.heap.size) := fun k hk hM => ⟨heap_alloc w _ k hk, by intro h; rcases h with h | h; exact hM h; omega⟩
  have hb : ∀ b, β b ≠ none → updO β nid (some w.heap.size) b = β b ∧ updN cp nid 0 b = cp b := by
    intro b hb
    have : b ≠ nid := by rintro rfl; exact hb hd
    simp [updO, updN, this]
  refine ⟨_, _, _, _, _, _, hr, .inl rfl, after_new hh hn hd (.cells cur t) 0 (.blk cs) rfl ⟨w.heap.size, cur, t, by simp [updO], .inr rfl, heap_alloc_at w _, hc.keep hk hb, fun v hv => h1 v (by simpa using hv)⟩, ?_⟩
  exact .ptr nid 0 w.heap.size (by simp [updO])

theorem run_newVar (t : TypeId) (v : Value) : (newVar t v).run P w = .ok ⟨w.heap.size, 0, none⟩ (w.alloc (.cells v.cells t)) := by
  simp only [newVar, newRow, Sem.run_bind, run_newObj, Result.andThen_ok, Sem.run_pure]; rfl

theorem zero_ok {t : TypeId} {T : Ty} (hT : TyOk P t T) {z : List AV} (hz : zeroOf T = some z) : ∃ zv, (zeroValue t).run P w = .ok zv w ∧ RepL w M β cp z zv.cells.toList ∧ ∀ v ∈ zv.cells.toList, v.oneCell' = true := by
  have fin : ∀ {sz : Nat}, InfoOk P t sz z → ∃ zv, (zeroValue t).run P w = .ok zv w ∧ RepL w M β cp z zv.cells.toList ∧ ∀ v ∈ zv.cells.toList, v.oneCell' = true := by
    intro sz hi
    obtain ⟨zv, h1, h2, h3⟩ := run_zero (w := w) hi
    exact ⟨zv, h1, by rw [← h2]; exact repL_zero _, h3⟩
  cases T with
  | int k => cases hz; exact fin hT.2
  | bool => cases hz; exact fin hT.2
  | str => cases hz; exact fin hT.2
  | slice e sz b z => cases hz; exact fin hT.2.2.2.2.2
  | struct fl fs sz z => cases hz; exact fin hT.2
  | one => cases hz; exact fin hT.2
  | other => cases hz

theorem alloc_sound {t : TypeId} {T : Ty} (hT : TyOk P t T) (hh : HeapRel w M β cp h) (hn : nid ≤ h.length) (hd : β nid = none) (ho : o.op = .alloc t) {z : List AV} (hz : zeroOf T = some z) :
    Good P o a w M β cp h nid (.ptr nid 0) (.new (.blk z)) := by
  obtain ⟨zv, h1, h2, h3⟩ := zero_ok (w := w) (M := M) (β := β) (cp := cp) hT hz
  exact good_new hh hn hd (by simp [execOp, ho, Instr.alloc, h1, run_newVar]; rfl) h2 h3

theorem box_sound {t : TypeId} {x : Operand} {X : AV} (hh : HeapRel w M β cp h) (hn : nid ≤ h.length) (hd : β nid = none) (ho : o.op = .box t x) (hx : Rep w M β cp X (a.eval x)) {cs : List AV} (hc : cells X = some cs) :
    Good P o a w M β cp h nid (.ptr nid 0) (.new (.blk cs)) := by
  obtain ⟨h1, h2⟩ := cells_rep hx hc
  exact good_new hh hn hd (by simp [execOp, ho, Instr.box, run_newVar]; rfl) h1 h2

theorem eqs (cs vs : Array Value) (ofs : Nat) (hle : ofs + vs.size ≤ cs.size) : vs.zipIdx.foldl (fun cs (x : Value × Nat) => cs.setIfInBounds (ofs + x.2) x.1) cs = (cs.toList.take ofs ++ vs.toList ++ cs.toList.drop (ofs + vs.size)).toArray := by
  have : ∀ (l : List Value) (k : Nat) (c : Array Value), ofs + k + l.length ≤ c.size → (l.zipIdx k).foldl (fun cs (x : Value × Nat) => cs.setIfInBounds (ofs + x.2) x.1) c = (c.toList.take (ofs + k) ++ l ++ c.toList.drop (ofs + k + l.length)).toArray := by
    intro l
    induction l with
    | nil => intro k c _; simp
    | cons v l ih =>
      intro k c hc
      simp only [List.zipIdx_cons, List.foldl_cons]
      rw [ih (k + 1) _ (by simp at hc ⊢; omega)]
      have e := list_seg_step c.toList (ofs + k) v l (by simp at hc ⊢; omega)
      simpa [Array.toList_setIfInBounds, Nat.add_assoc] using e
  have h1 := this vs.toList 0 cs (by simpa using hle)
  rw [← Array.foldl_toList, Array.toList_zipIdx]
  simpa using h1

theorem fill_ok {places : Nat → Option (Nat × Nat)} {fs : List (Nat × TypeId × Nat)} (hp : ∀ i, i < fs.length → places i = some ((fs.getD i (0, 0, 0)).1, (fs.getD i (0, 0, 0)).2.2)) :
    ∀ (ps : List (Nat × AV)) (vs : List (Nat × Value)) (cs out : List AV) (cur : Array Value), fillA fs cs ps = some out → vs.map (·.1) = ps.map (·.1) →
      (∀ (j : Nat) (x : Nat × AV) (v : Nat × Value), ps[j]? = some x → vs[j]? = some v → Rep w M β cp x.2 v.2) → RepL w M β cp cs cur.toList → (∀ v ∈ cur.toList, v.oneCell' = true) →
      ∃ cur', Instr.fill places cur vs = some cur' ∧ RepL w M β cp out cur'.toList ∧ ∀ v ∈ cur'.toList, v.oneCell' = true
  | [], vs, cs, out, cur, hf, hm, _, hc, h1 => by
    simp [fillA] at hf
    subst hf
    have : vs = [] := by simpa using hm
    subst this
    exact ⟨cur, rfl, hc, h1⟩
  | (i, x) :: ps, vs, cs, out, cur, hf, hm, hv, hc, h1 => by
    match vs, hm with
    | (i', v) :: vs, hm0 =>
      simp only [List.map_cons, List.cons.injEq] at hm0
      obtain ⟨rfl, hm1⟩ := hm0
      simp only [fillA] at hf
      split at hf
      · rename_i xs ofs t sz hcx hnth
        split at hf
        · rename_i q1 q2 q3
          rw [len_eq] at q1 q2 q3
          rw [len_eq] at q2
          have q1 := beq_iff.1 q1
          have q2 := ble_iff.1 q2
          have q3 := blt_iff.1 q3
          have hx := hv 0 _ _ rfl rfl
          obtain ⟨g1, g2⟩ := cells_rep hx hcx
          have hsz : v.cells.size = xs.length := by simpa using g1.1
          have hcl : cur.size = cs.length := by simpa using hc.1
          have hpl := hp i' q3
          rw [← nth_eq, hnth] at hpl
          have hfold := eqs cur v.cells ofs (by omega)
          have hlen : RepL w M β cp (splice ofs xs cs) (cur.toList.take ofs ++ v.cells.toList ++ cur.toList.drop (ofs + v.cells.size)).toArray.toList := by
            refine ⟨by rw [splice_eq _ _ _ q2]; simp; omega, fun j z hj => ?_⟩
            rw [splice_avs _ _ _ _ q2] at hj
            have h3 := splice_vals cur.toList v.cells.toList ofs j (by simp; omega)
            simp only [Array.length_toList] at h3
            show Rep _ _ _ _ z ((cur.toList.take ofs ++ v.cells.toList ++ cur.toList.drop (ofs + v.cells.size)).getD j undef)
            rw [h3]
            split
            · rename_i hc2
              rw [hsz] at hc2
              rw [if_pos hc2] at hj
              exact g1.2 _ _ hj
            · rename_i hc2
              rw [hsz] at hc2
              rw [if_neg hc2] at hj
              exact hc.2 _ _ hj
          obtain ⟨cur', r1, r2, r3⟩ := fill_ok hp ps vs (splice ofs xs cs) out (cur.toList.take ofs ++ v.cells.toList ++ cur.toList.drop (ofs + v.cells.size)).toArray hf hm1
            (fun j x v hj hj' => hv (j + 1) x v (by simpa using hj) (by simpa using hj')) hlen
            (by have := splice_one cur.toList v.cells.toList ofs h1 g2; simpa using this)
          refine ⟨cur', ?_, r2, r3⟩
          simp only [Instr.fill, hpl]
          rw [if_neg (by simp; omega), hfold]
          exact r1
        · cases hf
      · cases hf


theorem run_places : ∀ (l : List Field) (w : World), (∀ f ∈ l, (P.info? f.type).isSome = true) → (l.mapM fun f => do pure (f.offset, ← sizeOf f.type) : Sem (List (Nat × Nat))).run P w = .ok (l.map fun f => (f.offset, P.cellsOf f.type)) w
  | [], w, _ => by simp
  | f :: l, w, hl => by
    have h1 := hl f (by simp)
    obtain ⟨i, hi⟩ := Option.isSome_iff_exists.1 h1
    have ih := run_places l w (fun f hf => hl f (by simp [hf]))
    have e : (sizeOf f.type).run P w = .ok i.size w := by simp [sizeOf, typeInfo, hi]
    simp only [List.mapM_cons, Sem.run_bind, e, Result.andThen_ok, Sem.run_pure]
    rw [ih]
    simp [Program.cellsOf, hi]

theorem build_sound {t : TypeId} {flat : Option (List LK)} {fs : List (Nat × TypeId × Nat)} {sz : Nat} {z : List AV} {ps : Array (Nat × Operand)} (hT : TyOk P t (.struct flat fs sz z)) (hh : HeapRel w M β cp h)
    (hpos : fs.all (fun f => Nat.blt 0 f.2.2) = true) (ho : o.op = .build t ps) (hx : ∀ x, Rep w M β cp (ev s x) (a.eval x)) {cs : List AV} (hc : fillA fs z (ps.toList.map fun p => (p.1, ev s p.2)) = some cs) :
    Good P o a w M β cp h nid (.agg cs) .no := by
  have hT' := hT
  obtain ⟨⟨fields, hu, hfs, _⟩, hi⟩ := hT
  obtain ⟨zv, z1, z2, z3⟩ := zero_ok (w := w) (M := M) (β := β) (cp := cp) hT' rfl
  have hinfo : ∀ f ∈ fields.toList, (P.info? f.type).isSome = true := by
    intro f hf
    have h1 := blt_iff.1 (List.all_eq_true.1 hpos (f.offset, f.type, P.cellsOf f.type) (by rw [← hfs]; exact List.mem_map.2 ⟨f, hf, rfl⟩))
    cases hi2 : P.info? f.type with
    | some i => rfl
    | none => simp [Program.cellsOf, hi2] at h1
  have hpl := run_places (P := P) fields.toList w hinfo
  obtain ⟨cur', r1, r2, r3⟩ := fill_ok (w := w) (M := M) (β := β) (cp := cp) (places := fun i => (fields.toList.map fun f => (f.offset, P.cellsOf f.type))[i]?) (fs := fs)
    (fun i hi => by
      rw [← hfs] at hi ⊢
      simp only [List.length_map] at hi
      rw [List.getD_eq_getElem?_getD, List.getElem?_map, List.getElem?_map, List.getElem?_eq_getElem hi]
      rfl) (ps.toList.map fun p => (p.1, ev s p.2)) (ps.toList.map fun p => (p.1, a.eval p.2)) z cs zv.cells hc (by simp)
    (fun j x v hj hj' => by
      simp only [List.getElem?_map, Option.map_eq_some_iff] at hj hj'
      obtain ⟨p, hp, rfl⟩ := hj
      obtain ⟨p', hp', rfl⟩ := hj'
      rw [hp] at hp'
      cases hp'
      exact hx _) z2 z3
  refine good_val hh (v' := .agg cur') ?_ (.agg _ _ (by simpa using r2.1) (fun v hv => r3 v (by simpa using hv)) fun j x hj => by rw [getD_arr]; exact r2.2 j x hj)
  have hpl2 : (fields.mapM fun f => do pure (f.offset, ← sizeOf f.type) : Sem (Array (Nat × Nat))).run P w = .ok (fields.toList.map fun f => (f.offset, P.cellsOf f.type)).toArray w := by
    rw [Array.mapM_eq_mapM_toList]
    simp only [Sem.run_map, hpl, Result.andThen_ok]
  simp only [execOp, ho, Instr.build, Sem.run_bind, z1, Result.andThen_ok, run_underlying hu, hpl2]
  have r1' : Instr.fill (fun x => (fields.toList.map fun f => (f.offset, P.cellsOf f.type)).toArray[x]?) zv.cells ((ps.map fun x => (x.1, a.eval x.2)).toList) = some cur' := by
    simpa using r1
  simp only [r1']
  rfl

end
end Go.Abs
