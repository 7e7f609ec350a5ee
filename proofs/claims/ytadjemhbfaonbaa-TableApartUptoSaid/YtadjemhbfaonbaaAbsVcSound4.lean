/- What is to be proved of a piece of code is enough. -/
import Derived.Test.YtadjemhbfaonbaaAbsVcSound3
import Derived.Deep.LoopGhost
import Derived.Laws.Cover3
set_option linter.all false
namespace Go.Abs
open Go

/-- A function that a call enters. -/
def Enters (P : Program) (f : FuncId) : Prop := ∃ fn, P.funcs[f]? = some fn ∧ fn.body.isNone = false ∧ (fn.name == "runtime.NumGoroutine") = false

/-- A contract over abstract values and heaps: what is asked, and what is left. -/
def FnOk (P : Program) (f : FuncId) (A : List AV) (H : Hp) (K : Kont) : Prop :=
  ∀ (w : World) (M : Nat → Prop) (β : Nat → Option Nat) (cp : Nat → Nat) (vs : Array Value), HeapRel w M β cp H → RepL w M β cp A vs.toList →
    Calls P f vs w fun e w' => ∃ v r H' kl M' β' cp', e = .returned v ∧ K r H' kl ∧ HeapRel w' M' β' cp' H' ∧ AK w M β cp H w' M' β' cp' H' kl ∧ Rep w' M' β' cp' r v

def ConOk (P : Program) (con : FuncId → Con) : Prop := ∀ f A H K, con f A H K → Enters P f ∧ FnOk P f A H K

section
variable {P : Program} {E : Env} {con : FuncId → Con} {w : World} {M : Nat → Prop} {β : Nat → Option Nat} {cp : Nat → Nat} {h : Hp} {o : Oper} {a : Act} {s : Tm}

theorem run_callFunc {f : FuncId} {args : Array Value} (he : Enters P f) : (callFunc f args).run P w = .ok (.enter f args) w := by
  obtain ⟨fn, h1, h2, h3⟩ := he
  have h4 : fn.name ≠ "runtime.NumGoroutine" := by simpa using h3
  have h5 : fn.body ≠ none := by intro e; rw [e] at h2; cases h2
  simp [callFunc, h1, h4, h5]

structure Zl (E : Env) : Prop where
  zl : ∀ t e sz b z, E.ty t = .slice e sz b z → z.length = sz

theorem nil_sound {T : Ty} {t t' : TypeId} {op : BinOp} {x y : Operand} {X Y : AV} {K : AV → Prop} (hT : TyOk P t T) (ho : o.op = .binOp op t x y t') (hx : Rep w M β cp X (a.eval x)) (hy : Rep w M β cp Y (a.eval y))
    (hv : aNil T op X Y K) : ∃ b : Bool, (execOp a.eval o).run P w = .ok (.value (.bool b)) w ∧ K (.bc b) := by
  unfold aNil at hv
  split at hv
  · rename_i e sz bs z
    have ey : a.eval y = .slice none 0 0 := rep_nil hy
    have hu := hT.1
    have run : ∀ (ad : Option Addr) (l c : Nat), a.eval x = .slice ad l c → (op = .eql → (execOp a.eval o).run P w = .ok (.value (.bool ad.isNone)) w) ∧ (op = .neq → (execOp a.eval o).run P w = .ok (.value (.bool (!ad.isNone))) w) := by
      intro ad l c ex
      refine ⟨fun h => ?_, fun h => ?_⟩
      · subst h
        have hg : (eqGuard .eql t x y (.slice ad l c) (.slice none 0 0)).run P w = .ok () w := by simp [eqGuard]
        have hb : (binOp .eql t (.slice ad l c) (.slice none 0 0)).run P w = .ok (.bool ad.isNone) w := by
          simp only [binOp]
          simp [run_equal_slice_nil w t e ad l c hu]
        simp [execOp, ho, ex, ey, hg, hb]
      · subst h
        have hg : (eqGuard .neq t x y (.slice ad l c) (.slice none 0 0)).run P w = .ok () w := by simp [eqGuard]
        simp [execOp, ho, ex, ey, hg, run_neq_slice_nil w t e ad l c hu]
    have shape : ∀ n : Th Nat, ((∃ sz f, X = .sl sz n f) ∨ ∃ b, X = .own b n) → ∃ ad l c, a.eval x = .slice ad l c ∧ (ad = none → n () = 0) := by
      rintro n (⟨sz, f, rfl⟩ | ⟨b, rfl⟩)
      · cases hx with
        | c h =>
          revert h
          generalize a.eval x = v
          intro h
          cases h with
          | sl0 sz n f ad c hn hc => exact ⟨ad, 0, c, rfl, fun _ => hn⟩
          | sl sz n f ad c u => exact ⟨some ad, _, c, rfl, fun h => by cases h⟩
      · revert hx
        generalize a.eval x = v
        intro hx
        cases hx with
        | c h => cases h
        | own0 b n hn => exact ⟨none, 0, 0, rfl, fun _ => hn⟩
        | own b n g h hn => exact ⟨some _, _, _, rfl, fun h => by cases h⟩
    have two : ∀ (n : Th Nat) (b1 : Bool), ((∃ sz f, X = .sl sz n f) ∨ ∃ b, X = .own b n) → (op = .eql ∧ b1 = true ∨ op = .neq ∧ b1 = false) → Both (Imp (fun _ => n () = 0) (K (.bc b1))) (K (.bc (!b1))) → ∃ b : Bool, (execOp a.eval o).run P w = .ok (.value (.bool b)) w ∧ K (.bc b) := by
      intro n b1 hX hop hv
      obtain ⟨ad, l, c, ex, hn⟩ := shape n hX
      cases hv with
      | mk h1 h2 =>
        cases h1 with
        | mk h1 =>
          obtain ⟨r1, r2⟩ := run ad l c ex
          cases ad with
          | none =>
            have h3 := h1 (hn rfl)
            rcases hop with ⟨rfl, rfl⟩ | ⟨rfl, rfl⟩
            · exact ⟨_, r1 rfl, h3⟩
            · exact ⟨_, r2 rfl, h3⟩
          | some ad =>
            rcases hop with ⟨rfl, rfl⟩ | ⟨rfl, rfl⟩
            · exact ⟨_, r1 rfl, h2⟩
            · exact ⟨_, r2 rfl, h2⟩
    split at hv
    · split at hv
      · exact ⟨_, (run none 0 0 (rep_nil hx)).1 rfl, hv⟩
      · exact two _ true (.inl ⟨_, _, rfl⟩) (.inl ⟨rfl, rfl⟩) hv
      · exact two _ true (.inr ⟨_, rfl⟩) (.inl ⟨rfl, rfl⟩) hv
      · cases hv
    · split at hv
      · exact ⟨_, (run none 0 0 (rep_nil hx)).2 rfl, hv⟩
      · exact two _ false (.inl ⟨_, _, rfl⟩) (.inr ⟨rfl, rfl⟩) hv
      · exact two _ false (.inr ⟨_, rfl⟩) (.inr ⟨rfl, rfl⟩) hv
      · cases hv
    · cases hv
  · cases hv

theorem idx_sound {t : TypeId} {x y : Operand} {X Y : AV} {K : AV → Prop} {R : Option Arr} (hR : ∀ r, R = some r → ArrOk P t r) (ho : o.op = .index t x y) (hx : Rep w M β cp X (a.eval x)) (hy : Rep w M β cp Y (a.eval y))
    (hv : aIndex R X Y K) : ∃ v v', (execOp a.eval o).run P w = .ok (.value v') w ∧ K v ∧ Rep w M β cp v v' := by
  unfold aIndex at hv
  split at hv
  · rename_i r cs k i
    split at hv
    · rename_i q
      have q := beq_iff.1 q
      rw [len_eq] at q
      cases hv with
      | mk hk hv =>
        obtain ⟨e, hu, _, he, d, hd, hag⟩ := hR r rfl
        obtain ⟨xs, ex, hL, hone⟩ := rep_agg hx
        have ey := rep_i hy
        have key : ∀ (n j : Nat) (l : List AV), l = cs.drop (j * r.sz) → j + n = r.n → (j : Int) ≤ i () → idxS r.ag r.sz i K n j l → ∃ v, idxV r.ag r.sz (cs.drop ((i ()).toNat * r.sz)) = some v ∧ K v := by
          intro n
          induction n with
          | zero => intro j l hl hj hji _; omega
          | succ n ih =>
            intro j l hl hj hji hv
            simp only [idxS] at hv
            split at hv
            · rename_i v hvv
              cases hv with
              | mk h1 h2 =>
                by_cases hij : i () = (j : Int)
                · cases h1 with
                  | mk h1 =>
                    refine ⟨v, ?_, (h1 hij).out⟩
                    rw [hij, Int.toNat_natCast, ← hl]; exact hvv
                · refine ih (j + 1) _ ?_ (by omega) (by omega) h2
                  rw [dropN_eq, hl, List.drop_drop, Nat.succ_mul]
            · cases hv
        obtain ⟨v, hv1, hv2⟩ := key r.n 0 cs (by simp) (by omega) (by omega) hv
        have hlt : (i ()).toNat < r.n := by omega
        have hle : (i ()).toNat * r.sz + r.sz ≤ r.n * r.sz := by
          have := Nat.mul_le_mul_right r.sz (show (i ()).toNat + 1 ≤ r.n by omega)
          rw [Nat.succ_mul] at this; exact this
        have hsz : xs.size = r.n * r.sz := by have := hL.1; simp at this; omega
        have hst : (execOp a.eval o).run P w = ((part e xs ((i ()).toNat * r.sz)).run P w).andThen fun v w => .ok (.value v) w := by
          simp [execOp, ho, Instr.index, ey, ex, asIntOf, run_underlying hu, hk.1, hk.2, run_sizeOf he]
        unfold idxV at hv1
        split at hv1
        · rename_i hagt
          rw [hagt] at hag
          obtain ⟨fs, rfl⟩ := hag
          cases hv1
          refine ⟨_, .agg (xs.extract ((i ()).toNat * r.sz) ((i ()).toNat * r.sz + r.sz)), ?_, hv2, ?_⟩
          · rw [hst]
            simp [part, isAgg_struct hd, run_sizeOf he]
          · rw [takeN_eq]
            refine .agg _ _ (by simp; omega) (fun v hv => ?_) fun j yy hj => ?_
            · refine hone v ?_
              simp only [Array.mem_extract_iff_getElem] at hv
              obtain ⟨k, hk, rfl⟩ := hv
              simp
            · rw [List.getElem?_take] at hj
              split at hj
              · rename_i hjs
                rw [List.getElem?_drop] at hj
                have := hL.2 _ yy hj
                rw [← getD_arr] at this
                have e2 : (xs.extract ((i ()).toNat * r.sz) ((i ()).toNat * r.sz + r.sz)).getD j undef = xs.getD ((i ()).toNat * r.sz + j) undef := by
                  rw [Array.getD_eq_getD_getElem?, Array.getD_eq_getD_getElem?, Array.getElem?_extract]
                  rw [if_pos (by omega)]
                rw [e2]; exact this
              · cases hj
        · rename_i hagf
          rw [hagf] at hag
          split at hv1
          · rename_i yy l hl
            cases hv1
            have h0 : cs[(i ()).toNat * r.sz]? = some v := by
              have : (cs.drop ((i ()).toNat * r.sz))[0]? = some v := by rw [hl]; rfl
              rw [List.getElem?_drop] at this; simpa using this
            have hlt2 : (i ()).toNat * r.sz < xs.size := by
              have := (List.getElem?_eq_some_iff.1 h0).1
              omega
            refine ⟨_, xs.getD ((i ()).toNat * r.sz) undef, ?_, hv2, ?_⟩
            · rw [hst]
              have hna : (isAgg e).run P w = .ok false w := isAgg_one hd (by rintro fs rfl; cases hag) (by rintro n e rfl; cases hag)
              simp [part, hna, hlt2]
            · have := hL.2 _ v h0
              rwa [← getD_arr] at this
          · cases hv1
    · cases hv
  · cases hv

/-- A row is written in place. -/
theorem row_upd {b g e sz : Nat} {k : Th Nat} {f : Th Nat → List AV} {cur cur' : Array Value} (hh : HeapRel w M β cp h) (hb : h[b]? = some (.vec e sz k f)) (hg : β b = some g) (hM : M g) (hcell : w.heap[g]? = some (.cells cur e (0, 0))) (hsz : cur'.size = cur.size)
    {N : Th Nat} {F : Th Nat → List AV} (ho : ∀ k', k' < N () * sz → (cur'.getD k' undef).oneCell' = true) (hNc : N () ≤ cp b) (hcs : cur.size = cp b * sz) (hcm : cp b ≤ maxLen) (hl : ∀ i : Nat, i < N () → (F fun _ => i).length = sz)
    (hF : ∀ (i j : Nat) (x : AV), i < N () → (F fun _ => i)[j]? = some x → RepC w M x (cur'.getD (i * sz + j) undef)) : After w M β cp h (w.setRow g cur') M β cp (h.set b (.vec e sz N F)) := by
  obtain ⟨f1, f2, f3, f4, f5, f6⟩ := setRow_facts (w := w) (cur' := cur') hcell
  have hk : ∀ k, k < w.heap.size → ¬ M k → (w.setRow g cur').heap[k]? = w.heap[k]? ∧ ¬ M k := fun k hk hk' => ⟨f6 k (by rintro rfl; exact hk' hM), hk'⟩
  exact after_upd hh hb rfl rfl hg hM f1 f2 f3 f4 f6 (.inr ⟨g, cur', hg, hM, f5, by rw [hsz, hcs], ho, hNc, hcm, hl, fun i j x hi hj => (hF i j x hi hj).keep hk⟩)

theorem zeroCells_one {zs : Array Value} (h1 : ∀ v ∈ zs.toList, v.oneCell' = true) (h0 : 0 < zs.size) (n : Nat) : ∀ v ∈ (Builtin.zeroCells zs n).toList, v.oneCell' = true := by
  intro v hv
  unfold Builtin.zeroCells at hv
  simp only [Array.toList_map, List.mem_map, Array.mem_toList_iff, Array.mem_range] at hv
  obtain ⟨i, hi, rfl⟩ := hv
  have hm : i % zs.size < zs.size := Nat.mod_lt _ h0
  rw [getElem!_pos zs _ hm]
  exact h1 _ (by simp)

theorem clear_sound {c : Call} (hE : EnvOk P E) (hZ : ∀ t e sz b z, E.ty t = .slice e sz b z → z.length = sz) (ho : o.op = .call c) (hc : c.callee = .builtin .clear) (hh : HeapRel w M β cp h) (hx : ∀ x, Rep w M β cp (ev s x) (a.eval x)) {K : Kont} (hv : aClear E c s h K) : Good2 P o a w M β cp h K := by
  unfold aClear at hv
  split at hv
  · rename_i t x hta ha
    have hargs : c.args = #[x] := Array.toList_inj.1 ha
    have hta0 : c.argTypes[0]? = some t := by rw [← Array.getElem?_toList, hta]; rfl
    have run : ∀ v w', (Builtin.clear_ c.argTypes o.type #[a.eval x]).run P w = .ok v w' → (execOp a.eval o).run P w = .ok (.value v) w' := by
      intro v w' hv
      simp [execOp, ho, resolve, hc, invoke, builtin, hargs, hv]
    split at hv
    · rename_i et tz by' z hT
      have hTy := hE.ty t
      rw [hT] at hTy
      obtain ⟨hu, hsz, _, hi, _⟩ := hTy
      split at hv
      · rename_i b sz p n hX
        have hxx := hx x
        rw [hX] at hxx
        split at hv
        · rename_i e sz' k f hb0
          split at hv
          · rename_i q1 q2
            have q1 := beq_iff.1 q1
            have q2 := beq_iff.1 q2
            subst q1 q2
            cases hv with
            | mk hpn hK =>
            have hpn : p () + n () = k () := hpn
            have hb := nth_some hb0 rfl
            have hset : ∀ g cur, β b = some g → M g → w.heap[g]? = some (.cells cur e (0, 0)) → cur.size = cp b * sz → (∀ j, j < k () * sz → (cur.getD j undef).oneCell' = true) → k () ≤ cp b → cp b ≤ maxLen → (∀ i : Nat, i < k () → (f fun _ => i).length = sz) →
                (∀ (i j : Nat) (x : AV), i < k () → (f fun _ => i)[j]? = some x → RepC w M x (cur.getD (i * sz + j) undef)) → ∀ cur' : Array Value, cur'.size = cur.size → (∀ j, j < p () * sz → cur'.getD j undef = cur.getD j undef) →
                After w M β cp h (w.setRow g cur') M β cp (h.set b (.vec e sz p f)) := by
              intro g cur e1 e2 e3 e4 e5 e6 e7 e8 e9 cur' hs' heq
              have hle : p () * sz ≤ k () * sz := Nat.mul_le_mul_right _ (by omega)
              refine row_upd hh hb e1 e2 e3 hs' (fun j hj => by rw [heq j hj]; exact e5 j (by omega)) (by omega) e4 e7 (fun i hi => e8 i (by omega)) fun i j x hi hj => ?_
              have hjs : j < sz := by rw [← e8 i (by omega)]; exact (List.getElem?_eq_some_iff.1 hj).1
              have hlt : i * sz + j < p () * sz := by
                have := Nat.mul_le_mul_right sz (show i + 1 ≤ p () by omega)
                rw [Nat.succ_mul] at this
                omega
              rw [heq _ hlt]
              exact e9 i j x (by omega) hj
            -- nothing is cleared
            have none0 : n () = 0 → (Builtin.clear_ c.argTypes o.type #[a.eval x]).run P w = .ok (.tuple #[]) w → Good2 P o a w M β cp h K := by
              intro h0 hr
              rcases hh.obj b _ hb with ⟨e1, e2⟩ | ⟨g, cur, e1, e2, e3, e4, e5, e6, e7, e8, e9⟩
              · refine ⟨.tuple #[], w, M, β, cp, .tup [], h.set b (.vec e sz p f), [], run _ _ hr, hK, ⟨fun c hc => hh.out c (by simpa using hc), fun c y hy => ?_, fun c c' y y' g' hy hy' hl hl' hg hg' => ?_, hh.dom⟩, ⟨fun _ _ hM => ⟨rfl, hM⟩, fun _ _ _ => ⟨rfl, rfl⟩, Ext.refl _ _ _, fun g' hg' => ?_⟩, .c (.tup [] #[] rfl fun j x hj => by simp at hj)⟩
                · rw [List.getElem?_set] at hy
                  split at hy
                  · split at hy
                    · rename_i q _; subst q; cases hy; exact .inl ⟨e1, by omega⟩
                    · cases hy
                  · exact hh.obj c y hy
                · have hne : ∀ d (z : AObj), (h.set b (.vec e sz p f))[d]? = some z → β d = some g' → d ≠ b := by
                    rintro d z hd hgd rfl
                    rw [e1] at hgd; cases hgd
                  have n1 := hne c y hy hg
                  have n2 := hne c' y' hy' hg'
                  rw [List.getElem?_set_ne (fun q => n1 q.symm)] at hy
                  rw [List.getElem?_set_ne (fun q => n2 q.symm)] at hy'
                  exact hh.inj c c' y y' g' hy hy' hl hl' hg hg'
                · obtain ⟨d, y, hy, hl, hg⟩ := hg'
                  have n1 : d ≠ b := by rintro rfl; rw [e1] at hg; cases hg
                  rw [List.getElem?_set_ne (fun q => n1 q.symm)] at hy
                  exact .inl ⟨d, y, hy, hl, hg⟩
              · have h2 := hset g cur e1 e2 e3 e4 e5 e6 e7 e8 e9 cur rfl fun _ _ => rfl
                rw [setRow_self w g cur e (0, 0) e3] at h2
                exact ⟨.tuple #[], w, M, β, cp, .tup [], _, [], run _ _ hr, hK, h2.heap, AK.of_after h2, .c (.tup [] #[] rfl fun j x hj => by simp at hj)⟩
            rcases rep_vw hxx with ⟨h0, ao, c', hc', he⟩ | ⟨g, hg, hn, he⟩
            · exact none0 h0 (by cases ao <;> simp [Builtin.clear_, hta0, run_underlying hu, he])
            · by_cases h0 : n () = 0
              · exact none0 h0 (by simp [Builtin.clear_, hta0, run_underlying hu, he, h0])
              · rcases hh.obj b _ hb with ⟨e1, _⟩ | ⟨g', cur, e1, e2, e3, e4, e5, e6, e7, e8, e9⟩
                · rw [hg] at e1; cases e1
                · rw [hg] at e1; cases e1
                  obtain ⟨zv, z1, z2, z3⟩ := run_zero (w := w) hi
                  have hzs : zv.cells.size = sz := by rw [← hZ _ _ _ _ _ hT, ← z2]; simp
                  have hlen : (Builtin.zeroCells zv.cells (n ())).toList.length = n () * sz := by simp [Builtin.zeroCells, hzs]
                  have hfit : p () * sz + 0 + (Builtin.zeroCells zv.cells (n ())).toList.length ≤ cur.size := by
                    rw [hlen, e4, Nat.add_zero, ← Nat.add_mul]
                    exact Nat.mul_le_mul_right _ hn
                  have hst := run_storeCells_at P g (p () * sz) e (Builtin.zeroCells zv.cells (n ())).toList 0 cur w e3 hfit (zeroCells_one z3 (by omega) _)
                  have h2 := hset g cur hg e2 e3 e4 e5 e6 e7 e8 e9 (cur.toList.take (p () * sz + 0) ++ (Builtin.zeroCells zv.cells (n ())).toList ++ cur.toList.drop (p () * sz + 0 + (Builtin.zeroCells zv.cells (n ())).toList.length)).toArray (by
                      have hcl : cur.toList.length = cur.size := Array.length_toList
                      simp only [List.size_toArray, List.length_append, List.length_take, List.length_drop]
                      omega) fun j hj => by
                    have hcl : cur.toList.length = cur.size := Array.length_toList
                    rw [getD_list, List.getD_eq_getElem?_getD, List.append_assoc, List.getElem?_append_left (by rw [List.length_take]; omega), List.getElem?_take, if_pos (by omega), getD_arr, List.getD_eq_getElem?_getD]
                  refine ⟨.tuple #[], _, M, β, cp, .tup [], _, [], run _ _ ?_, hK, h2.heap, AK.of_after h2, .c (.tup [] #[] rfl fun j x hj => by simp at hj)⟩
                  obtain ⟨n', hn'⟩ : ∃ n', n () = n' + 1 := ⟨n () - 1, by omega⟩
                  rw [hn'] at he hst ⊢
                  simp [Builtin.clear_, hta0, run_underlying hu, he, z1, hst]
          · cases hv
        · cases hv
      · rename_i hX
        have hxx := hx x
        rw [hX] at hxx
        exact ⟨.tuple #[], w, M, β, cp, .tup [], h, [], run _ _ (by simp [Builtin.clear_, hta0, run_underlying hu, rep_nil hxx]), hv, hh, AK.refl, .c (.tup [] #[] rfl fun j x hj => by simp at hj)⟩
      · cases hv
    · cases hv
  · cases hv

theorem dst_rep {sz b : Nat} {p n : Th Nat} {X : AV} {v : Value} (hd : dstV sz X = some (b, p, n)) (hr : Rep w M β cp X v) :
    (n () = 0 ∧ ∃ a c, v = .slice a 0 c) ∨ ∃ g c, β b = some g ∧ p () + n () ≤ cp b ∧ v = .slice (some ⟨g, p () * sz, none⟩) (n ()) c := by
  unfold dstV at hd
  split at hd
  · rename_i b' n'
    simp only [Option.some.injEq, Prod.mk.injEq] at hd
    obtain ⟨rfl, rfl, rfl⟩ := hd
    rcases rep_own hr with ⟨h0, rfl⟩ | ⟨g, hg, hn, rfl⟩
    · exact .inl ⟨h0, _, _, rfl⟩
    · refine .inr ⟨g, cp b', hg, ?_, ?_⟩
      · show 0 + n' () ≤ cp b'
        omega
      · show _ = Value.slice (some ⟨g, 0 * sz, none⟩) (n' ()) (cp b')
        rw [Nat.zero_mul]
  · split at hd
    · rename_i q
      have q := beq_iff.1 q
      subst q
      simp only [Option.some.injEq, Prod.mk.injEq] at hd
      obtain ⟨rfl, rfl, rfl⟩ := hd
      rcases rep_vw hr with ⟨h0, a, c, _, rfl⟩ | ⟨g, hg, hn, rfl⟩
      · exact .inl ⟨h0, _, _, rfl⟩
      · exact .inr ⟨g, _, hg, hn, rfl⟩
    · cases hd
  · cases hd

theorem copyR_sound {c : Call} (hE : EnvOk P E) (ho : o.op = .call c) (hc : c.callee = .builtin .copy) (hh : HeapRel w M β cp h) (hx : ∀ x, Rep w M β cp (ev s x) (a.eval x)) {nid : Nat} : (aCopyR E c s h).Sound (Good P o a w M β cp h nid) := by
  unfold aCopyR
  split
  · rename_i t t' x y hta ha
    have hargs : c.args = #[x, y] := Array.toList_inj.1 ha
    have hta0 : c.argTypes[0]? = some t := by rw [← Array.getElem?_toList, hta]; rfl
    have run : ∀ v w', (Builtin.copy_ c.argTypes o.type #[a.eval x, a.eval y]).run P w = .ok v w' → (execOp a.eval o).run P w = .ok (.value v) w' := by
      intro v w' hv
      simp [execOp, ho, resolve, hc, invoke, builtin, hargs, hv]
    split
    case h_2 => trivial
    rename_i et sz by' z q0 hT
    have hTy := hE.ty t
    rw [hT] at hTy
    obtain ⟨hu, hsz, _, hi, _⟩ := hTy
    have hso := run_sizeOf (P := P) (w := w) hi
    split
    case h_2 => trivial
    rename_i b p n hdst
    split
    case h_2 => trivial
    rename_i e sz' k f hb0
    split
    case h_2 => trivial
    rename_i q m g hsrc qz
    have qz := beq_iff.1 qz
    subst qz
    rintro ⟨hq, hpk⟩
    have hpk : p () + n () ≤ k () := hpk
    have hb := nth_some hb0 rfl
    obtain ⟨ao, c', news, ey, hnl, hnc, hn1, hglen, hgrep⟩ := src_sound hsz hh (hx y) hsrc hq
    generalize hmn : min (m ()) (n ()) = mn
    have hF : ∀ (i j : Nat) (z : AV), (rowL sz (fun _ => decide (p () ≤ (fun _ => i : Th Nat) () ∧ (fun _ => i : Th Nat) () < p () + mn)) (g fun _ => (fun _ => i : Th Nat) () - p ()) (f fun _ => i))[j]? = some z → ∀ (v : Value),
        (p () ≤ i → i < p () + mn → ∀ z', (g fun _ => i - p ())[j]? = some z' → RepC w M z' v) → (¬ (p () ≤ i ∧ i < p () + mn) → ∀ z', (f fun _ => i)[j]? = some z' → RepC w M z' v) → (p () ≤ i → i < p () + mn → (g fun _ => i - p ()).length = sz) → (f fun _ => i).length = sz → RepC w M z v := by
      intro i j z hj v h1 h2 h3 h4
      obtain ⟨hjs, rfl⟩ := rowL_get _ _ _ _ _ _ hj
      refine pick_rep _ _ (fun hc => ?_) (fun hc => ?_)
      · have hc := of_decide_eq_true hc
        have hl := h3 hc.1 hc.2
        refine h1 hc.1 hc.2 _ ?_
        show (g fun _ => i - p ())[j]? = _
        rw [List.getD_eq_getElem?_getD, List.getElem?_eq_getElem (by omega)]
        rfl
      · have hc := of_decide_eq_false hc
        refine h2 hc _ ?_
        rw [List.getD_eq_getElem?_getD, List.getElem?_eq_getElem (by omega)]
        rfl
    have hget : ∀ (O : AObj) d (z : AObj), (h.set b O)[d]? = some z → (d = b ∧ z = O) ∨ (d ≠ b ∧ h[d]? = some z) := by
      intro O d z hd
      rw [List.getElem?_set] at hd
      split at hd
      · split at hd
        · exact .inl ⟨by omega, by cases hd; rfl⟩
        · cases hd
      · exact .inr ⟨by omega, hd⟩
    rcases hh.obj b _ hb with ⟨e1, e2⟩ | ⟨gb, cur, e1, e2, e3, e4, e5, e6, e7, e8, e9⟩
    · -- not yet born
      have hn0 : n () = 0 := by omega
      have hm0 : mn = 0 := by omega
      obtain ⟨ax, cx, hax⟩ : ∃ ax cx, a.eval x = .slice ax 0 cx := by
        rcases dst_rep hdst (hx x) with ⟨_, ax, cx, he⟩ | ⟨gx, cx, hgx, _⟩
        · exact ⟨ax, cx, he⟩
        · rw [e1] at hgx; cases hgx
      have hr : (Builtin.copy_ c.argTypes o.type #[a.eval x, a.eval y]).run P w = .ok (.int .i64 0) w := by
        have hl0 : ∀ ad, (loadCells ad 0).run P w = .ok #[] w := fun ad => run_loadCells_list (P := P) w ad [] (fun j v hj => by simp at hj)
        cases ao <;> cases ax <;> simp [Builtin.copy_, hta0, run_underlying hu, hax, ey, Builtin.lenOf, Builtin.firstCells, hso, hl0, goInt, storeCells]
      refine ⟨_, .int .i64 0, w, M, β, cp, run _ _ hr, .inl rfl, ⟨⟨fun c hc => hh.out c (by simpa [Chg.on] using hc), fun d z hz => ?_, fun d d' z z' g' hz hz' hl hl' hg hg' => ?_, hh.dom⟩, fun _ _ hM => ⟨rfl, hM⟩, fun _ _ => ⟨rfl, rfl⟩, Ext.refl _ _ _, fun g' hg' => ?_, fun _ h1 h2 => absurd h1 h2⟩, ?_⟩
      · rcases hget _ d z hz with ⟨rfl, rfl⟩ | ⟨hne, hz'⟩
        · exact .inl ⟨e1, e2⟩
        · exact hh.obj d z hz'
      · have hne : ∀ d (z : AObj), β d = some g' → d ≠ b := by rintro d z hgd rfl; rw [e1] at hgd; cases hgd
        rcases hget _ d z hz with ⟨rfl, _⟩ | ⟨_, h1⟩
        · exact absurd rfl (hne _ z hg)
        · rcases hget _ d' z' hz' with ⟨rfl, _⟩ | ⟨_, h1'⟩
          · exact absurd rfl (hne _ z hg')
          · exact hh.inj d d' z z' g' h1 h1' hl hl' hg hg'
      · obtain ⟨d, z, hz, hl, hg⟩ := hg'
        rcases hget _ d z hz with ⟨rfl, _⟩ | ⟨_, h1⟩
        · rw [e1] at hg; cases hg
        · exact .inl ⟨d, z, h1, hl, hg⟩
      · rw [hm0]; exact .c (.i .i64 _)
    · have hml : (news.take (mn * sz)).length = mn * sz := by
        rw [List.length_take, hnl]
        have := Nat.mul_le_mul_right sz (show mn ≤ m () by omega)
        omega
      have hle : (p () + mn) * sz ≤ k () * sz := Nat.mul_le_mul_right _ (by omega)
      have hle2 : k () * sz ≤ cur.size := by rw [e4]; exact Nat.mul_le_mul_right _ e6
      have hadd : (p () + mn) * sz = p () * sz + mn * sz := Nat.add_mul _ _ _
      have hcl : cur.toList.length = cur.size := Array.length_toList
      have hsub : ∀ v ∈ news.take (mn * sz), v.oneCell' = true := fun v hv => hn1 v (List.mem_of_mem_take hv)
      have hfit : p () * sz + 0 + (news.take (mn * sz)).length ≤ cur.size := by omega
      have hst := run_storeCells_at P gb (p () * sz) e (news.take (mn * sz)) 0 cur w e3 hfit hsub
      generalize hcur' : (cur.toList.take (p () * sz + 0) ++ news.take (mn * sz) ++ cur.toList.drop (p () * sz + 0 + (news.take (mn * sz)).length)).toArray = cur' at hst
      have hcs' : cur'.size = cur.size := by
        rw [← hcur']
        simp only [List.size_toArray, List.length_append, List.length_drop, hml]
        rw [List.length_take]
        omega
      have hnew : ∀ j, cur'.getD j undef = if p () * sz ≤ j ∧ j < p () * sz + mn * sz then news.getD (j - p () * sz) undef else cur.getD j undef := by
        intro j
        have h3 := splice_vals cur.toList (news.take (mn * sz)) (p () * sz) j (by omega)
        rw [hml] at h3
        rw [← hcur', getD_list, Nat.add_zero, hml, h3]
        split
        · rename_i hj
          rw [List.getD_eq_getElem?_getD, List.getD_eq_getElem?_getD, List.getElem?_take, if_pos (by omega)]
        · rw [getD_arr]
      have hrun : (Builtin.copy_ c.argTypes o.type #[a.eval x, a.eval y]).run P w = .ok (.int .i64 mn) (w.setRow gb cur') := by
        have hload : ∀ ad, ao = some ad → (loadCells ad (mn * sz)).run P w = .ok (news.take (mn * sz)).toArray w := by
          intro ad had
          have := run_loadCells_list (P := P) w ad (news.take (mn * sz)) fun j v hj => by
            rcases hnc with h0 | ⟨ad', h1, h2⟩
            · have : mn = 0 := by omega
              rw [this] at hj; simp at hj
            · rw [had] at h1; cases h1
              rw [List.getElem?_take] at hj
              split at hj
              · exact h2 j v hj
              · cases hj
          rwa [hml] at this
        have hself : mn = 0 → cur' = cur := by
          intro h0
          apply Array.toList_inj.1
          rw [← hcur', h0]
          simp
        rcases dst_rep hdst (hx x) with ⟨h0, ax, cx, he⟩ | ⟨gx, cx, hgx, hpn, he⟩
        · have hm0 : mn = 0 := by omega
          rw [hself hm0, setRow_self w gb cur e (0, 0) e3, hm0]
          have hmin : Nat.min (m ()) 0 = 0 := Nat.min_zero _
          have hl0 : ∀ ad, (loadCells ad 0).run P w = .ok #[] w := fun ad => run_loadCells_list (P := P) w ad [] (fun j v hj => by simp at hj)
          cases ao <;> cases ax <;> simp [Builtin.copy_, hta0, run_underlying hu, he, ey, Builtin.lenOf, Builtin.firstCells, hso, hl0, goInt, storeCells]
        · rw [e1] at hgx; cases hgx
          have hmin : Nat.min (m ()) (n ()) = mn := hmn
          cases ao with
          | none =>
            have hm0 : mn = 0 := by
              rcases hnc with h0 | ⟨ad', h1, h2⟩
              · omega
              · cases h1
            rw [hself hm0, setRow_self w gb cur e (0, 0) e3]
            simp [Builtin.copy_, hta0, run_underlying hu, he, ey, Builtin.lenOf, Builtin.firstCells, hso, goInt, storeCells, hmn]
          | some ad =>
            have hld := hload ad rfl
            simp [Builtin.copy_, hta0, run_underlying hu, he, ey, Builtin.lenOf, Builtin.firstCells, hso, goInt, hmn, hld, hst]
      have h2 := row_upd (N := k) (F := fun j => rowL sz (fun _ => decide (p () ≤ j () ∧ j () < p () + mn)) (g fun _ => j () - p ()) (f j)) hh hb e1 e2 e3 hcs' (fun j hj => by
          rw [hnew]
          split
          · rename_i hj2
            rw [List.getD_eq_getElem?_getD, List.getElem?_eq_getElem (by rw [List.length_take] at hml; omega)]
            exact hn1 _ (List.getElem_mem _)
          · exact e5 j hj) e6 e4 e7 (fun i hi => rowL_len _ _ _ _) fun i j z hi hj => by
        have hjs := (rowL_get _ _ _ _ _ _ hj).1
        have hb1 := Nat.mul_le_mul_right sz (show i + 1 ≤ k () by omega)
        rw [Nat.succ_mul] at hb1
        refine hF i j z hj _ (fun g1 g2 z' hz' => ?_) (fun g1 z' hz' => ?_) (fun g1 g2 => hglen _ (by omega)) (e8 i hi)
        · have hr := hgrep (i - p ()) j z' (by omega) hz'
          have e10 : i * sz = p () * sz + (i - p ()) * sz := by rw [← Nat.add_mul]; congr 1; omega
          have b1 := Nat.mul_le_mul_right sz (show i - p () + 1 ≤ mn by omega)
          rw [Nat.succ_mul] at b1
          rw [hnew, if_pos (by omega), show i * sz + j - p () * sz = (i - p ()) * sz + j by omega]
          exact hr
        · have hn' : ¬ (p () * sz ≤ i * sz + j ∧ i * sz + j < p () * sz + mn * sz) := by
            rintro ⟨a1, a2⟩
            apply g1
            refine ⟨?_, ?_⟩
            · rcases Nat.lt_or_ge i (p ()) with h | h
              · have := Nat.mul_le_mul_right sz (show i + 1 ≤ p () by omega)
                rw [Nat.succ_mul] at this
                omega
              · exact h
            · rcases Nat.lt_or_ge i (p () + mn) with h | h
              · exact h
              · have := Nat.mul_le_mul_right sz h
                omega
          rw [hnew, if_neg hn']
          exact e9 i j z' hi hz'
      subst hmn
      exact ⟨_, .int .i64 (min (m ()) (n ()) : Nat), _, M, β, cp, run _ _ hrun, .inl rfl, h2, .c (.i .i64 fun _ => ((min (m ()) (n ()) : Nat) : Int))⟩
  · trivial

/-- What an append within a row does. -/
theorem inRow_run {c : Call} (hE : EnvOk P E) (ho : o.op = .call c) (hc : c.callee = .builtin .append) (hh : HeapRel w M β cp h) (hx : ∀ x, Rep w M β cp (ev s x) (a.eval x)) {b : Nat} {q : Th Prop} {n : Th Nat} {O : AObj} (ha : aInRow E c s h = some (b, q, n, O)) (hq : q ()) :
    ∃ g cur cur' e sz k f F, h[b]? = some (.vec e sz k f) ∧ O = .vec e sz k F ∧ β b = some g ∧ M g ∧ w.heap[g]? = some (.cells cur e (0, 0)) ∧ cur'.size = cur.size ∧ (∀ k', k' < k () * sz → (cur'.getD k' undef).oneCell' = true) ∧ k () ≤ cp b ∧ cur.size = cp b * sz ∧ cp b ≤ maxLen ∧
      (∀ i : Nat, i < k () → (F fun _ => i).length = sz) ∧ (∀ (i j : Nat) (x : AV), i < k () → (F fun _ => i)[j]? = some x → RepC w M x (cur'.getD (i * sz + j) undef)) ∧ n () ≤ k () ∧
      (execOp a.eval o).run P w = .ok (.value (.slice (some ⟨g, 0, none⟩) (n ()) (cp b))) (w.setRow g cur') := by
  unfold aInRow at ha
  split at ha
  case h_2 => cases ha
  rename_i t t' x y hta hargs0
  have hargs : c.args = #[x, y] := Array.toList_inj.1 hargs0
  split at ha
  case h_2 => cases ha
  rename_i b0 n0 b' sz0 p m e sz bytes z hX hY q0 hT
  have q0 := beq_iff.1 q0
  subst q0
  have hats : c.argTypes = #[t, t] := Array.toList_inj.1 hta
  have hTy := hE.ty t
  rw [hT] at hTy
  obtain ⟨hu, hsz, _, hi, _⟩ := hTy
  split at ha
  case h_2 => cases ha
  rename_i e' sz' k f hb0
  split at ha
  case h_2 => cases ha
  rename_i q1 q2 q3 q4
  have q1 := beq_iff.1 q1
  have q2 := beq_iff.1 q2
  have q3 := beq_iff.1 q3
  have q4 := beq_iff.1 q4
  subst q1 q2 q3 q4
  simp only [Option.some.injEq, Prod.mk.injEq] at ha
  obtain ⟨rfl, rfl, rfl, rfl⟩ := ha
  obtain ⟨hq1, hq2⟩ : n0 () + m () ≤ k () ∧ p () + m () ≤ k () := hq
  have hb := nth_some hb0 rfl
  have hxx := hx x
  rw [hX] at hxx
  have hyy := hx y
  rw [hY] at hyy
  obtain ⟨g, hg, hn, ex⟩ := rep_nn hxx
  rcases hh.obj b0 _ hb with ⟨e1, _⟩ | ⟨g', cur, e1, e2, e3, e4, e5, e6, e7, e8, e9⟩
  · rw [hg] at e1; cases e1
  rw [hg] at e1; cases e1
  have hsrc : src sz h (.vw b0 sz p m) = some (fun _ => p () + m () ≤ k (), m, fun k => f fun _ => k () + p ()) := by
    simp only [src, hb0]
    rw [show Nat.beq sz sz = true from beq_iff.2 rfl]
  obtain ⟨ao, c', news, ey, hnl, hnc, hn1, hglen, hgrep⟩ := src_sound hsz hh hyy hsrc hq2
  have hle : (n0 () + m ()) * sz ≤ k () * sz := Nat.mul_le_mul_right _ hq1
  have hle2 : k () * sz ≤ cur.size := by rw [e4]; exact Nat.mul_le_mul_right _ e6
  have hadd : (n0 () + m ()) * sz = n0 () * sz + m () * sz := Nat.add_mul _ _ _
  have hcl : cur.toList.length = cur.size := Array.length_toList
  have hfit : n0 () * sz + 0 + news.length ≤ cur.size := by omega
  have hst := run_storeCells_at P g (n0 () * sz) e news 0 cur w e3 hfit hn1
  generalize hcur' : (cur.toList.take (n0 () * sz + 0) ++ news ++ cur.toList.drop (n0 () * sz + 0 + news.length)).toArray = cur' at hst
  have hcs' : cur'.size = cur.size := by
    rw [← hcur']
    simp only [List.size_toArray, List.length_append, List.length_drop]
    rw [List.length_take]
    omega
  have hnew : ∀ j, cur'.getD j undef = if n0 () * sz ≤ j ∧ j < n0 () * sz + m () * sz then news.getD (j - n0 () * sz) undef else cur.getD j undef := by
    intro j
    have h3 := splice_vals cur.toList news (n0 () * sz) j (by omega)
    rw [hnl] at h3
    rw [← hcur', getD_list, Nat.add_zero, hnl, h3]
    split
    · rfl
    · rw [getD_arr]
  have hrun : (execOp a.eval o).run P w = .ok (.value (.slice (some ⟨g, 0, none⟩) (n0 () + m ()) (cp b0))) (w.setRow g cur') := by
    obtain ⟨i, i1, i2, _⟩ := hi
    have hk1 : n0 () + m () ≤ cp b0 := by omega
    have hload : (Builtin.firstCells i.size (m ()) (.slice ao (m ()) c')).run P w = .ok news.toArray w := by
      rcases hnc with h0 | ⟨ad, h1, h2⟩
      · have hn0 : news = [] := List.eq_nil_of_length_eq_zero (by rw [hnl, h0, Nat.zero_mul])
        subst hn0
        have hl0 : ∀ ad, (loadCells ad 0).run P w = .ok #[] w := fun ad => run_loadCells_list (P := P) w ad [] (fun j v hj => by simp at hj)
        cases ao <;> simp [Builtin.firstCells, h0, hl0]
      · subst h1
        have := run_loadCells_list (P := P) w ad news h2
        rw [hnl] at this
        simp [Builtin.firstCells, i2, this]
    have happ : (Builtin.append_ #[t, t] o.type #[.slice (some ⟨g, 0, none⟩) (n0 ()) (cp b0), .slice ao (m ()) c']).run P w = .ok (.slice (some ⟨g, 0, none⟩) (n0 () + m ()) (cp b0)) (w.setRow g cur') := by
      simp [Builtin.append_, run_underlying hu, sizeOf, typeInfo, i1, i2, Builtin.lenOf, hk1, addr_add]
      rw [i2] at hload
      simp [hload, hst]
    simp [execOp, ho, resolve, hc, invoke, builtin, hargs, hats, ex, ey, happ]
  refine ⟨g, cur, cur', e, sz, k, f, _, hb, rfl, hg, e2, e3, hcs', fun j hj => ?_, e6, e4, e7, fun i hi => rowL_len _ _ _ _, fun i j z hi hj => ?_, hq1, hrun⟩
  · rw [hnew]
    split
    · rename_i hj2
      rw [List.getD_eq_getElem?_getD, List.getElem?_eq_getElem (by omega)]
      exact hn1 _ (List.getElem_mem _)
    · exact e5 j hj
  · obtain ⟨hjs, rfl⟩ := rowL_get _ _ _ _ _ _ hj
    have hb1 := Nat.mul_le_mul_right sz (show i + 1 ≤ k () by omega)
    rw [Nat.succ_mul] at hb1
    refine pick_rep _ _ (fun hc => ?_) (fun hc => ?_)
    · obtain ⟨c1, c2⟩ : n0 () ≤ i ∧ i < n0 () + m () := of_decide_eq_true hc
      have e10 : i * sz = n0 () * sz + (i - n0 ()) * sz := by rw [← Nat.add_mul]; congr 1; omega
      have b1 := Nat.mul_le_mul_right sz (show i - n0 () + 1 ≤ m () by omega)
      rw [Nat.succ_mul] at b1
      have hgl := hglen (i - n0 ()) (by omega)
      have hr := hgrep (i - n0 ()) j ((f fun _ => i - n0 () + p ()).getD j .any) (by omega) (by
        show (f fun _ => i - n0 () + p ())[j]? = _
        have hgl : (f fun _ => i - n0 () + p ()).length = sz := hgl
        rw [List.getD_eq_getElem?_getD, List.getElem?_eq_getElem (by omega)]
        rfl)
      rw [hnew, if_pos (by omega), show i * sz + j - n0 () * sz = (i - n0 ()) * sz + j by omega]
      exact hr
    · have c0 : ¬ (n0 () ≤ i ∧ i < n0 () + m ()) := of_decide_eq_false hc
      have hn' : ¬ (n0 () * sz ≤ i * sz + j ∧ i * sz + j < n0 () * sz + m () * sz) := by
        rintro ⟨a1, a2⟩
        apply c0
        refine ⟨?_, ?_⟩
        · rcases Nat.lt_or_ge i (n0 ()) with h | h
          · have := Nat.mul_le_mul_right sz (show i + 1 ≤ n0 () by omega)
            rw [Nat.succ_mul] at this
            omega
          · exact h
        · rcases Nat.lt_or_ge i (n0 () + m ()) with h | h
          · exact h
          · have := Nat.mul_le_mul_right sz h
            omega
      rw [hnew, if_neg hn']
      have hfl := e8 i hi
      exact e9 i j _ hi (by rw [List.getD_eq_getElem?_getD, List.getElem?_eq_getElem (by omega)]; rfl)
theorem vcOp_forced : True := by
  have := @vcOp.eq_1
  trivial
theorem vcOp_sound (hE : EnvOk P E) (hZ : Zl E) (hC : ConOk P con) (hh : HeapRel w M β cp h) (ht : ∀ t, Rep w M β cp (lk s t) (a.tmps.getD t undef)) {K : Kont} (hv : vcOp E con o s h K)
    {next : Act → World → Prop} {Q : Exit → Act → World → Prop}
    (hn : ∀ v' w' M' β' cp' v h' kl, K v h' kl → HeapRel w' M' β' cp' h' → AK w M β cp h w' M' β' cp' h' kl → Rep w' M' β' cp' v v' → next (a.put o.dst v') w') : o.wp P a w next Q := by
  have hx := fun x => ev_rep (a := a) ht x
  have hs := step_sound (o := o) (nid := len h) hE hh (by rw [len_eq]; exact Nat.le_refl _) (hh.out _ (by rw [len_eq]; exact Nat.le_refl _)) hx
  have good : ∀ v c, Good P o a w M β cp h (len h) v c → K v (c.on (len h) h) [] → o.wp P a w next Q := by
    rintro v c ⟨n, v', w', M', β', cp', hr, hnv, haf, hrep⟩ hK
    unfold Oper.wp
    rw [hr]
    rcases hnv with rfl | ⟨rfl, rfl⟩
    · exact hn _ _ _ _ _ _ _ _ hK haf.heap (AK.of_after haf) hrep
    · exact hn _ _ _ _ _ _ _ _ hK haf.heap (AK.of_after haf) hrep
  have call : ∀ f (A : List AV) (vs : Array Value), RepL w M β cp A vs.toList → con f A h K → (Enters P f → (execOp a.eval o).run P w = .ok (.enter f vs) w) → o.wp P a w next Q := by
    intro f A vs hA hc hr
    obtain ⟨he, hf⟩ := hC f A h K hc
    unfold Oper.wp
    rw [hr he, Oper.upon_enter]
    refine (hf w M β cp vs hh hA).mono ?_
    rintro e w' ⟨v, r, H', kl, M', β', cp', rfl, hK, hh', hak, hrep⟩
    exact hn _ _ _ _ _ _ _ _ hK hh' hak hrep
  unfold vcOp at hv
  split at hv
  · rename_i v c hst
    rw [hst] at hs
    exact good v c hs hv
  · rename_i p v c hst
    rw [hst] at hs
    cases hv with | mk h1 h2 => exact good v c (hs h1) h2
  · split at hv
    · rename_i c ho
      have hargs : RepL w M β cp (c.args.toList.map (ev s)) (c.args.map a.eval).toList := ⟨by simp, fun j x hj => by
        simp only [List.getElem?_map, Option.map_eq_some_iff] at hj
        obtain ⟨y, hy, rfl⟩ := hj
        have : (c.args.map a.eval).toList[j]? = some (a.eval y) := by rw [Array.toList_map, List.getElem?_map, hy]; rfl
        rw [List.getD_eq_getElem?_getD, this]
        exact hx y⟩
      split at hv
      · rename_i f hc
        refine call f _ _ hargs hv fun he => ?_
        simp [execOp, ho, resolve, hc, Act.eval, Deferred.ofValue, invoke, run_callFunc he]
      · rename_i t hc
        split at hv
        · rename_i f l hl
          have h1 := ht t
          rw [hl] at h1
          obtain ⟨cs, he2, hl1, hcs⟩ := rep_fn h1
          refine call f _ ((c.args.map a.eval) ++ cs) ⟨by simp at hl1 ⊢; omega, fun j x hj => ?_⟩ hv fun he => ?_
          · rw [List.getElem?_append] at hj
            rw [Array.toList_append, List.getD_eq_getElem?_getD, List.getElem?_append]
            split at hj
            · rename_i hlt
              rw [if_pos (by simpa using hlt), ← List.getD_eq_getElem?_getD]
              exact hargs.2 j x hj
            · rename_i hge
              rw [if_neg (by simpa using hge), ← List.getD_eq_getElem?_getD]
              have := hcs _ x hj
              simpa using this
          · have he3 : a.eval (.tmp t) = .func (.func f) #[] cs := he2
            simp [execOp, ho, resolve, hc, he3, Deferred.ofValue, invoke, run_callFunc he]
        · cases hv
      · rename_i hc
        split at hv
        · rename_i b q n O ha
          cases hv with
          | mk hq hK =>
            obtain ⟨g, cur, cur', e, sz, k, f, F, a1, rfl, a3, a4, a5, a6, a7, a8, a9, a10, a11, a12, a13, a14⟩ := inRow_run hE ho hc hh hx ha hq
            have h2 := row_upd hh a1 a3 a4 a5 a6 a7 a8 a9 a10 a11 a12
            unfold Oper.wp
            rw [a14]
            exact hn _ _ _ _ _ _ _ _ hK h2.heap (AK.of_after h2) (.nn b n g a3 (by omega))
        · obtain ⟨v', w', M', β', cp', v, h', kl, r1, r2, r3, r4, r5⟩ := append_sound hE ho hc hh hx hZ.zl hv
          unfold Oper.wp
          rw [r1]
          exact hn _ _ _ _ _ _ _ _ r2 r3 r4 r5
      · rename_i hc
        obtain ⟨v', w', M', β', cp', v, h', kl, r1, r2, r3, r4, r5⟩ := clear_sound hE hZ.zl ho hc hh hx hv
        unfold Oper.wp
        rw [r1]
        exact hn _ _ _ _ _ _ _ _ r2 r3 r4 r5
      · rename_i hc
        have hs2 := copyR_sound (nid := len h) hE ho hc hh hx
        unfold aCopy at hv
        split at hv
        · rename_i v ch he
          rw [he] at hs2
          exact good v ch hs2 hv
        · rename_i p v ch he
          rw [he] at hs2
          cases hv with | mk h1 h2 => exact good v ch (hs2 h1) h2
        · cases hv
      · cases hv
    · rename_i op t x y t' ho
      obtain ⟨b, hr, hK⟩ := nil_sound (hE.ty t) ho (hx x) (hx y) hv
      unfold Oper.wp
      rw [hr]
      exact hn _ _ _ _ _ _ _ _ hK hh AK.refl (.c (.bc b))
    · rename_i t x y ho
      obtain ⟨v, v', hr, hK, hv'⟩ := idx_sound (fun r h => hE.ar t r h) ho (hx x) (hx y) hv
      unfold Oper.wp
      rw [hr]
      exact hn _ _ _ _ _ _ _ _ hK hh AK.refl hv'
    · rename_i f first caps ho
      split at hv
      · rename_i hf
        have hf' : first = #[] := Array.toList_inj.1 hf
        have hr : (execOp a.eval o).run P w = .ok (.value (.func (.func f) #[] (caps.map a.eval))) w := by simp [execOp, ho, Instr.makeFunc, hf']
        unfold Oper.wp
        rw [hr]
        refine hn _ _ _ _ _ _ _ _ hv hh AK.refl (.fn f _ _ (by simp) fun j x hj => ?_)
        simp only [List.getElem?_map, Option.map_eq_some_iff] at hj
        obtain ⟨y, hy, rfl⟩ := hj
        have : (caps.map a.eval).toList[j]? = some (a.eval y) := by rw [Array.toList_map, List.getElem?_map, hy]; rfl
        rw [getD_arr, List.getD_eq_getElem?_getD, this]
        exact hx y
      · cases hv
    · cases hv

/-- The state of a piece of code, since a base. -/
structure St (w0 : World) (M0 : Nat → Prop) (β0 : Nat → Option Nat) (cp0 : Nat → Nat) (h0 : Hp) (nt : Nat) (s : Tm) (h : Hp) (kl : List Nat) (a : Act) (w : World) : Prop where
  ex : ∃ M β cp, HeapRel w M β cp h ∧ (∀ t, Rep w M β cp (lk s t) (a.tmps.getD t undef)) ∧ AK w0 M0 β0 cp0 h0 w M β cp h kl
  nt : a.tmps.size = nt
  df : a.defers = []

variable {w0 : World} {M0 : Nat → Prop} {β0 : Nat → Option Nat} {cp0 : Nat → Nat} {h0 : Hp} {nt : Nat} {kl : List Nat}

theorem put_rep {d : Option Tmp} {v : AV} {v' : Value} {s' : Tm} (hs : put nt d v s = some s') (hn : a.tmps.size = nt) (ht : ∀ t, Rep w M β cp (lk s t) (a.tmps.getD t undef)) (hv : Rep w M β cp v v') :
    (∀ t, Rep w M β cp (lk s' t) ((a.put d v').tmps.getD t undef)) ∧ (a.put d v').tmps.size = nt ∧ (a.put d v').defers = a.defers := by
  unfold put at hs
  split at hs
  · cases hs; exact ⟨ht, hn, rfl⟩
  · rename_i d
    split at hs
    · rename_i q
      have q := blt_iff.1 q
      cases hs
      refine ⟨fun t => ?_, by simpa [Act.put] using hn, rfl⟩
      simp only [lk, Act.put]
      split
      · rename_i q2
        have q2 := beq_iff.1 q2
        subst q2
        have : (a.tmps.setIfInBounds d v').getD d undef = v' := by simp [Array.getD_eq_getD_getElem?, hn, q]
        rw [this]
        exact hv
      · rename_i q2
        have q2 : d ≠ t := fun e => by rw [beq_iff.2 e] at q2; cases q2
        have : (a.tmps.setIfInBounds d v').getD t undef = a.tmps.getD t undef := by simp [Array.getD_eq_getD_getElem?, Array.getElem?_setIfInBounds, q2]
        rw [this]
        exact ht t
    · cases hs

theorem lk_set {d : Nat} {v : AV} (ht : ∀ t, Rep w M β cp (lk s t) (a.tmps.getD t undef)) (hv : Rep w M β cp v (a.tmps.getD d undef)) : ∀ t, Rep w M β cp (lk ((d, v) :: s) t) (a.tmps.getD t undef) := by
  intro t
  simp only [lk]
  split
  · rename_i q; have q := beq_iff.1 q; subst q; exact hv
  · exact ht t

theorem vcOps_sound (hE : EnvOk P E) (hZ : Zl E) (hC : ConOk P con) {ops : Array Oper} {K : Tm → Hp → List Nat → Prop} {Q : Exit → Act → World → Prop}
    (hQ : ∀ s h kl a w, K s h kl → St w0 M0 β0 cp0 h0 nt s h kl a w → Q .normal a w) :
    ∀ (r : List Oper) (i : Nat), r = ops.toList.drop i → ∀ (s : Tm) (h : Hp) (kl : List Nat) (a : Act) (w : World), vcOps E con nt ops.toList r s h kl K → St w0 M0 β0 cp0 h0 nt s h kl a w →
      wpOps P ops Q (List.range' i r.length) a w
  | [], i, _, s, h, kl, a, w, hv, hst => hQ s h kl a w hv hst
  | o :: r, i, hr, s, h, kl, a, w, hv, hst => by
    have hoi : ops[i]? = some o := by
      have : (ops.toList.drop i)[0]? = some o := by rw [← hr]; rfl
      simpa [List.getElem?_drop] using this
    have hr' : r = ops.toList.drop (i + 1) := by
      rw [← List.tail_drop, ← hr]; rfl
    have ih := vcOps_sound hE hZ hC hQ r (i + 1) hr'
    simp only [List.length_cons, List.range'_succ, wpOps, hoi]
    obtain ⟨⟨M, β, cp, hh, ht, hak⟩, hnt, hdf⟩ := hst
    have run : ∀ s1 : Tm, (∀ t, Rep w M β cp (lk s1 t) (a.tmps.getD t undef)) → (vcOp E con o s1 h fun v h' kl' => match put nt o.dst v (killTm kl' s1) with
      | some s' => vcOps E con nt ops.toList r s' h' (kl' ++ kl) K
      | none => Bad 100) → o.wp P a w (wpOps P ops Q (List.range' (i + 1) r.length)) Q := by
      intro s1 ht1 hv1
      refine vcOp_sound hE hZ hC hh ht1 hv1 fun v' w' M' β' cp' v h' kl' hK hh' hak' hrep => ?_
      split at hK
      · rename_i s' hput
        have ht2 : ∀ t, Rep w' M' β' cp' (lk (killTm kl' s1) t) (a.tmps.getD t undef) := fun t => by rw [lk_killTm]; exact hak'.rep (ht1 t)
        obtain ⟨p1, p2, p3⟩ := put_rep hput hnt ht2 hrep
        exact ih s' h' (kl' ++ kl) _ w' hK ⟨⟨M', β', cp', hh', p1, hak.trans hak'⟩, p2, p3.trans hdf⟩
      · cases hK
    have skip : ∀ s1 : Tm, (∀ t, Rep w M β cp (lk s1 t) (a.tmps.getD t undef)) → (match put nt o.dst (.tup []) s1 with
      | some s' => vcOps E con nt ops.toList r s' h kl K
      | none => Bad 101) → wpOps P ops Q (List.range' (i + 1) r.length) (a.put o.dst undef) w := by
      intro s1 ht1 hv1
      split at hv1
      · rename_i s' hput
        obtain ⟨p1, p2, p3⟩ := put_rep hput hnt ht1 (.tup [] #[] rfl fun j x hj => by simp at hj)
        exact ih s' h kl _ w hv1 ⟨⟨M, β, cp, hh, p1, hak⟩, p2, p3.trans hdf⟩
      · cases hv1
    unfold vcOps at hv
    dsimp only at hv
    split at hv
    · rename_i hg
      rw [if_pos (by simp [Region.wanted, hg])]
      exact .inl (run s ht hv)
    · rename_i j b hg
      split at hv
      · cases hv
      · rename_i d hd
        have hdj : (ops[j]?).bind (·.dst) = some d := by
          rw [nth_eq, List.getD_eq_getElem?_getD, List.getElem?_map] at hd
          rw [← Array.getElem?_toList]
          cases hoj : ops.toList[j]? with
          | none => rw [hoj] at hd; simp at hd
          | some x => rw [hoj] at hd; simpa using hd
        have hw : ∀ x : Bool, a.tmps.getD d undef = .bool x → Region.wanted o (yielded ops a.tmps) = (x == b) := by
          intro x hx
          have hlt : d < a.tmps.size := by
            rcases Nat.lt_or_ge d a.tmps.size with h1 | h1
            · exact h1
            · simp [Array.getD_eq_getD_getElem?, Array.getElem?_eq_none h1, undef] at hx
          have : a.tmps[d]? = some (.bool x) := by
            rw [Array.getElem?_eq_getElem hlt]
            simpa [Array.getD, hlt] using hx
          simp [Region.wanted, hg, yielded, hdj, this]
        have hd1 := ht d
        have wt : Region.wanted o (yielded ops a.tmps) = true → ∀ s1 : Tm, (∀ t, Rep w M β cp (lk s1 t) (a.tmps.getD t undef)) → (vcOp E con o s1 h fun v h' kl' => match put nt o.dst v (killTm kl' s1) with
            | some s' => vcOps E con nt ops.toList r s' h' (kl' ++ kl) K
            | none => Bad 100) → (if Region.wanted o (yielded ops a.tmps) = true then o.wp P a w (wpOps P ops Q (List.range' (i + 1) r.length)) Q ∨ (o.asks P a w ∧ LetsOut Q) else wpOps P ops Q (List.range' (i + 1) r.length) (a.put o.dst undef) w) := by
          intro h1 s1 h2 h3
          rw [if_pos h1]
          exact .inl (run s1 h2 h3)
        have wf : Region.wanted o (yielded ops a.tmps) = false → ∀ s1 : Tm, (∀ t, Rep w M β cp (lk s1 t) (a.tmps.getD t undef)) → (match put nt o.dst (.tup []) s1 with
            | some s' => vcOps E con nt ops.toList r s' h kl K
            | none => Bad 101) → (if Region.wanted o (yielded ops a.tmps) = true then o.wp P a w (wpOps P ops Q (List.range' (i + 1) r.length)) Q ∨ (o.asks P a w ∧ LetsOut Q) else wpOps P ops Q (List.range' (i + 1) r.length) (a.put o.dst undef) w) := by
          intro h1 s1 h2 h3
          rw [if_neg (by simp [h1])]
          exact skip s1 h2 h3
        split at hv
        · rename_i x hl
          rw [hl] at hd1
          have hw := hw x (rep_bc hd1)
          split at hv
          · exact wt (by rw [hw]; rfl) s ht hv
          · exact wt (by rw [hw]; rfl) s ht hv
          · rename_i n1 n2
            refine wf ?_ s ht hv
            rw [hw]
            cases x <;> cases b <;> first | rfl | exact (n1 rfl rfl).elim | exact (n2 rfl rfl).elim
        · rename_i x hl
          rw [hl] at hd1
          have hx := rep_b hd1
          have hw := hw _ hx
          split at hv
          · cases hv with
            | mk h1 h2 =>
              cases h1 with
              | mk h1 =>
                cases h2 with
                | mk h2 =>
                  cases hb : x () with
                  | true => exact wt (by rw [hw, hb]; rfl) _ (lk_set ht (by rw [hx, hb]; exact .c (.bc true))) (h1 hb).out
                  | false => exact wf (by rw [hw, hb]; rfl) _ (lk_set ht (by rw [hx, hb]; exact .c (.bc false))) (h2 hb).out
          · cases hv with
            | mk h1 h2 =>
              cases h1 with
              | mk h1 =>
                cases h2 with
                | mk h2 =>
                  cases hb : x () with
                  | true => exact wf (by rw [hw, hb]; rfl) _ (lk_set ht (by rw [hx, hb]; exact .c (.bc true))) (h1 hb).out
                  | false => exact wt (by rw [hw, hb]; rfl) _ (lk_set ht (by rw [hx, hb]; exact .c (.bc false))) (h2 hb).out
        · rename_i hl
          rw [hl] at hd1
          obtain ⟨cs, he, hL⟩ := rep_tup hd1
          refine wf ?_ s ht hv
          simp only [Region.wanted, hg, yielded, hdj, Option.bind_some]
          cases hx : a.tmps[d]? with
          | none => rfl
          | some v =>
            have : a.tmps.getD d undef = v := by simp [Array.getD_eq_getD_getElem?, hx]
            rw [he] at this
            subst this
            rfl
        · cases hv

end
end Go.Abs
