/- What is to be proved of a piece of code is enough. -/
import Derived.Test.YtidingjknijjmaaAbsVcSound3
import Derived.Deep.LoopGhost
import Derived.Laws.Cover3
set_option linter.all false
namespace Go.Abs
open Go

/-- A function that a call enters. -/
def Enters (P : Program) (f : FuncId) : Prop := ∃ fn, P.funcs[f]? = some fn ∧ fn.body.isNone = false ∧ (fn.name == "runtime.NumGoroutine") = false

/-- A contract over abstract values and heaps: what is asked, and what is left. -/
def FnOk (P : Program) (f : FuncId) (A : List AV) (H : Hp) (K : Kont) : Prop :=
  ∀ (w : World) (M : Nat → Prop) (β : Nat → Option Nat) (cp : Nat → Nat) (vs : Array Value), HeapRel w M β cp H → RepL w M β cp A vs.toList →
    Calls P f vs w fun e w' => ∃ v r H' kl M' β' cp', e = .returned v ∧ K r H' kl ∧ HeapRel w' M' β' cp' H' ∧ AK w M β cp H w' M' β' cp' H' kl ∧ Rep w' M' β' cp' r v

def ConOk (P : Program) (con : FuncId → Con) : Prop := ∀ f A H K, con f A H K → Enters P f ∧ FnOk P f A H K

section
variable {P : Program} {E : Env} {con : FuncId → Con} {w : World} {M : Nat → Prop} {β : Nat → Option Nat} {cp : Nat → Nat} {h : Hp} {o : Oper} {a : Act} {s : Tm}

theorem run_callFunc {f : FuncId} {args : Array Value} (he : Enters P f) : (callFunc f args).run P w = .ok (.enter f args) w := by
  obtain ⟨fn, h1, h2, h3⟩ := he
  have h4 : fn.name ≠ "runtime.NumGoroutine" := by simpa using h3
  have h5 : fn.body ≠ none := by intro e; rw [e] at h2; cases h2
  simp [callFunc, h1, h4, h5]

structure Zl (E : Env) : Prop where
  zl : ∀ t e sz b z, E.ty t = .slice e sz b z → z.length = sz

theorem nil_sound {T : Ty} {t t' : TypeId} {op : BinOp} {x y : Operand} {X Y : AV} {K : AV → Prop} (hT : TyOk P t T) (ho : o.op = .binOp op t x y t') (hx : Rep w M β cp X (a.eval x)) (hy : Rep w M β cp Y (a.eval y))
    (hv : aNil T op X Y K) : ∃ b : Bool, (execOp a.eval o).run P w = .ok (.value (.bool b)) w ∧ K (.bc b) := by
  unfold aNil at hv
  split at hv
  · rename_i e sz bs z
    have ey : a.eval y = .slice none 0 0 := rep_nil hy
    have hu := hT.1
    have run : ∀ (ad : Option Addr) (l c : Nat), a.eval x = .slice ad l c → (op = .eql → (execOp a.eval o).run P w = .ok (.value (.bool ad.isNone)) w) ∧ (op = .neq → (execOp a.eval o).run P w = .ok (.value (.bool (!ad.isNone))) w) := by
      intro ad l c ex
      refine ⟨fun h => ?_, fun h => ?_⟩
      · subst h
        have hg : (eqGuard .eql t x y (.slice ad l c) (.slice none 0 0)).run P w = .ok () w := by simp [eqGuard]
        have hb : (binOp .eql t (.slice ad l c) (.slice none 0 0)).run P w = .ok (.bool ad.isNone) w := by
          simp only [binOp]
          simp [run_equal_slice_nil w t e ad l c hu]
        simp [execOp, ho, ex, ey, hg, hb]
      · subst h
        have hg : (eqGuard .neq t x y (.slice ad l c) (.slice none 0 0)).run P w = .ok () w := by simp [eqGuard]
        simp [execOp, ho, ex, ey, hg, run_neq_slice_nil w t e ad l c hu]
    have shape : ∀ n : Th Nat, ((∃ sz f, X = .sl sz n f) ∨ ∃ b, X = .own b n) → ∃ ad l c, a.eval x = .slice ad l c ∧ (ad = none → n () = 0) := by
      rintro n (⟨sz, f, rfl⟩ | ⟨b, rfl⟩)
      · cases hx with
        | c h =>
          revert h
          generalize a.eval x = v
          intro h
          cases h with
          | sl0 sz n f ad c hn hc => exact ⟨ad, 0, c, rfl, fun _ => hn⟩
          | sl sz n f ad c u => exact ⟨some ad, _, c, rfl, fun h => by cases h⟩
      · revert hx
        generalize a.eval x = v
        intro hx
        cases hx with
        | c h => cases h
        | own0 b n hn => exact ⟨none, 0, 0, rfl, fun _ => hn⟩
        | own b n g h hn => exact ⟨some _, _, _, rfl, fun h => by cases h⟩
    have two : ∀ (n : Th Nat) (b1 : Bool), ((∃ sz f, X = .sl sz n f) ∨ ∃ b, X = .own b n) → (op = .eql ∧ b1 = true ∨ op = .neq ∧ b1 = false) → Both (Imp (fun _ => n () = 0) (K (.bc b1))) (K (.bc (!b1))) → ∃ b : Bool, (execOp a.eval o).run P w = .ok (.value (.bool b)) w ∧ K (.bc b) := by
      intro n b1 hX hop hv
      obtain ⟨ad, l, c, ex, hn⟩ := shape n hX
      cases hv with
      | mk h1 h2 =>
        cases h1 with
        | mk h1 =>
          obtain ⟨r1, r2⟩ := run ad l c ex
          cases ad with
          | none =>
            have h3 := h1 (hn rfl)
            rcases hop with ⟨rfl, rfl⟩ | ⟨rfl, rfl⟩
            · exact ⟨_, r1 rfl, h3⟩
            · exact ⟨_, r2 rfl, h3⟩
          | some ad =>
            rcases hop with ⟨rfl, rfl⟩ | ⟨rfl, rfl⟩
            · exact ⟨_, r1 rfl, h2⟩
            · exact ⟨_, r2 rfl, h2⟩
    split at hv
    · split at hv
      · exact ⟨_, (run none 0 0 (rep_nil hx)).1 rfl, hv⟩
      · exact two _ true (.inl ⟨_, _, rfl⟩) (.inl ⟨rfl, rfl⟩) hv
      · exact two _ true (.inr ⟨_, rfl⟩) (.inl ⟨rfl, rfl⟩) hv
      · cases hv
    · split at hv
      · exact ⟨_, (run none 0 0 (rep_nil hx)).2 rfl, hv⟩
      · exact two _ false (.inl ⟨_, _, rfl⟩) (.inr ⟨rfl, rfl⟩) hv
      · exact two _ false (.inr ⟨_, rfl⟩) (.inr ⟨rfl, rfl⟩) hv
      · cases hv
    · cases hv
  · cases hv

theorem idx_sound {t : TypeId} {x y : Operand} {X Y : AV} {K : AV → Prop} {R : Option Arr} (hR : ∀ r, R = some r → ArrOk P t r) (ho : o.op = .index t x y) (hx : Rep w M β cp X (a.eval x)) (hy : Rep w M β cp Y (a.eval y))
    (hv : aIndex R X Y K) : ∃ v v', (execOp a.eval o).run P w = .ok (.value v') w ∧ K v ∧ Rep w M β cp v v' := by
  unfold aIndex at hv
  split at hv
  · rename_i r cs k i
    split at hv
    · rename_i q
      have q := beq_iff.1 q
      rw [len_eq] at q
      cases hv with
      | mk hk hv =>
        obtain ⟨e, hu, _, he, d, hd, hag⟩ := hR r rfl
        obtain ⟨xs, ex, hL, hone⟩ := rep_agg hx
        have ey := rep_i hy
        have key : ∀ (n j : Nat) (l : List AV), l = cs.drop (j * r.sz) → j + n = r.n → (j : Int) ≤ i () → idxS r.ag r.sz i K n j l → ∃ v, idxV r.ag r.sz (cs.drop ((i ()).toNat * r.sz)) = some v ∧ K v := by
          intro n
          induction n with
          | zero => intro j l hl hj hji _; omega
          | succ n ih =>
            intro j l hl hj hji hv
            simp only [idxS] at hv
            split at hv
            · rename_i v hvv
              cases hv with
              | mk h1 h2 =>
                by_cases hij : i () = (j : Int)
                · cases h1 with
                  | mk h1 =>
                    refine ⟨v, ?_, (h1 hij).out⟩
                    rw [hij, Int.toNat_natCast, ← hl]; exact hvv
                · refine ih (j + 1) _ ?_ (by omega) (by omega) h2
                  rw [dropN_eq, hl, List.drop_drop, Nat.succ_mul]
            · cases hv
        obtain ⟨v, hv1, hv2⟩ := key r.n 0 cs (by simp) (by omega) (by omega) hv
        have hlt : (i ()).toNat < r.n := by omega
        have hle : (i ()).toNat * r.sz + r.sz ≤ r.n * r.sz := by
          have := Nat.mul_le_mul_right r.sz (show (i ()).toNat + 1 ≤ r.n by omega)
          rw [Nat.succ_mul] at this; exact this
        have hsz : xs.size = r.n * r.sz := by have := hL.1; simp at this; omega
        have hst : (execOp a.eval o).run P w = ((part e xs ((i ()).toNat * r.sz)).run P w).andThen fun v w => .ok (.value v) w := by
          simp [execOp, ho, Instr.index, ey, ex, asIntOf, run_underlying hu, hk.1, hk.2, run_sizeOf he]
        unfold idxV at hv1
        split at hv1
        · rename_i hagt
          rw [hagt] at hag
          obtain ⟨fs, rfl⟩ := hag
          cases hv1
          refine ⟨_, .agg (xs.extract ((i ()).toNat * r.sz) ((i ()).toNat * r.sz + r.sz)), ?_, hv2, ?_⟩
          · rw [hst]
            simp [part, isAgg_struct hd, run_sizeOf he]
          · rw [takeN_eq]
            refine .agg _ _ (by simp; omega) (fun v hv => ?_) fun j yy hj => ?_
            · refine hone v ?_
              simp only [Array.mem_extract_iff_getElem] at hv
              obtain ⟨k, hk, rfl⟩ := hv
              simp
            · rw [List.getElem?_take] at hj
              split at hj
              · rename_i hjs
                rw [List.getElem?_drop] at hj
                have := hL.2 _ yy hj
                rw [← getD_arr] at this
                have e2 : (xs.extract ((i ()).toNat * r.sz) ((i ()).toNat * r.sz + r.sz)).getD j undef = xs.getD ((i ()).toNat * r.sz + j) undef := by
                  rw [Array.getD_eq_getD_getElem?, Array.getD_eq_getD_getElem?, Array.getElem?_extract]
                  rw [if_pos (by omega)]
                rw [e2]; exact this
              · cases hj
        · rename_i hagf
          rw [hagf] at hag
          split at hv1
          · rename_i yy l hl
            cases hv1
            have h0 : cs[(i ()).toNat * r.sz]? = some v := by
              have : (cs.drop ((i ()).toNat * r.sz))[0]? = some v := by rw [hl]; rfl
              rw [List.getElem?_drop] at this; simpa using this
            have hlt2 : (i ()).toNat * r.sz < xs.size := by
              have := (List.getElem?_eq_some_iff.1 h0).1
              omega
            refine ⟨_, xs.getD ((i ()).toNat * r.sz) undef, ?_, hv2, ?_⟩
            · rw [hst]
              have hna : (isAgg e).run P w = .ok false w := isAgg_one hd (by rintro fs rfl; cases hag) (by rintro n e rfl; cases hag)
              simp [part, hna, hlt2]
            · have := hL.2 _ v h0
              rwa [← getD_arr] at this
          · cases hv1
    · cases hv
  · cases hv

theorem vcOp_sound (hE : EnvOk P E) (hZ : Zl E) (hC : ConOk P con) (hh : HeapRel w M β cp h) (ht : ∀ t, Rep w M β cp (lk s t) (a.tmps.getD t undef)) {K : Kont} (hv : vcOp E con o s h K)
    {next : Act → World → Prop} {Q : Exit → Act → World → Prop}
    (hn : ∀ v' w' M' β' cp' v h' kl, K v h' kl → HeapRel w' M' β' cp' h' → AK w M β cp h w' M' β' cp' h' kl → Rep w' M' β' cp' v v' → next (a.put o.dst v') w') : o.wp P a w next Q := by
  have hx := fun x => ev_rep (a := a) ht x
  have hs := step_sound (o := o) (nid := len h) hE hh (by rw [len_eq]; exact Nat.le_refl _) (hh.out _ (by rw [len_eq]; exact Nat.le_refl _)) hx
  have good : ∀ v c, Good P o a w M β cp h (len h) v c → K v (c.on (len h) h) [] → o.wp P a w next Q := by
    rintro v c ⟨n, v', w', M', β', cp', hr, hnv, haf, hrep⟩ hK
    unfold Oper.wp
    rw [hr]
    rcases hnv with rfl | ⟨rfl, rfl⟩
    · exact hn _ _ _ _ _ _ _ _ hK haf.heap (AK.of_after haf) hrep
    · exact hn _ _ _ _ _ _ _ _ hK haf.heap (AK.of_after haf) hrep
  have call : ∀ f (A : List AV) (vs : Array Value), RepL w M β cp A vs.toList → con f A h K → (Enters P f → (execOp a.eval o).run P w = .ok (.enter f vs) w) → o.wp P a w next Q := by
    intro f A vs hA hc hr
    obtain ⟨he, hf⟩ := hC f A h K hc
    unfold Oper.wp
    rw [hr he, Oper.upon_enter]
    refine (hf w M β cp vs hh hA).mono ?_
    rintro e w' ⟨v, r, H', kl, M', β', cp', rfl, hK, hh', hak, hrep⟩
    exact hn _ _ _ _ _ _ _ _ hK hh' hak hrep
  unfold vcOp at hv
  split at hv
  · rename_i v c hst
    rw [hst] at hs
    exact good v c hs hv
  · rename_i p v c hst
    rw [hst] at hs
    cases hv with | mk h1 h2 => exact good v c (hs h1) h2
  · split at hv
    · rename_i c ho
      have hargs : RepL w M β cp (c.args.toList.map (ev s)) (c.args.map a.eval).toList := ⟨by simp, fun j x hj => by
        simp only [List.getElem?_map, Option.map_eq_some_iff] at hj
        obtain ⟨y, hy, rfl⟩ := hj
        have : (c.args.map a.eval).toList[j]? = some (a.eval y) := by rw [Array.toList_map, List.getElem?_map, hy]; rfl
        rw [List.getD_eq_getElem?_getD, this]
        exact hx y⟩
      split at hv
      · rename_i f hc
        refine call f _ _ hargs hv fun he => ?_
        simp [execOp, ho, resolve, hc, Act.eval, Deferred.ofValue, invoke, run_callFunc he]
      · rename_i t hc
        split at hv
        · rename_i f l hl
          have h1 := ht t
          rw [hl] at h1
          obtain ⟨cs, he2, hl1, hcs⟩ := rep_fn h1
          refine call f _ ((c.args.map a.eval) ++ cs) ⟨by simp at hl1 ⊢; omega, fun j x hj => ?_⟩ hv fun he => ?_
          · rw [List.getElem?_append] at hj
            rw [Array.toList_append, List.getD_eq_getElem?_getD, List.getElem?_append]
            split at hj
            · rename_i hlt
              rw [if_pos (by simpa using hlt), ← List.getD_eq_getElem?_getD]
              exact hargs.2 j x hj
            · rename_i hge
              rw [if_neg (by simpa using hge), ← List.getD_eq_getElem?_getD]
              have := hcs _ x hj
              simpa using this
          · have he3 : a.eval (.tmp t) = .func (.func f) #[] cs := he2
            simp [execOp, ho, resolve, hc, he3, Deferred.ofValue, invoke, run_callFunc he]
        · cases hv
      · rename_i hc
        obtain ⟨v', w', M', β', cp', v, h', kl, r1, r2, r3, r4, r5⟩ := append_sound hE ho hc hh hx hZ.zl hv
        unfold Oper.wp
        rw [r1]
        exact hn _ _ _ _ _ _ _ _ r2 r3 r4 r5
      · cases hv
    · rename_i op t x y t' ho
      obtain ⟨b, hr, hK⟩ := nil_sound (hE.ty t) ho (hx x) (hx y) hv
      unfold Oper.wp
      rw [hr]
      exact hn _ _ _ _ _ _ _ _ hK hh AK.refl (.c (.bc b))
    · rename_i t x y ho
      obtain ⟨v, v', hr, hK, hv'⟩ := idx_sound (fun r h => hE.ar t r h) ho (hx x) (hx y) hv
      unfold Oper.wp
      rw [hr]
      exact hn _ _ _ _ _ _ _ _ hK hh AK.refl hv'
    · rename_i f first caps ho
      split at hv
      · rename_i hf
        have hf' : first = #[] := Array.toList_inj.1 hf
        have hr : (execOp a.eval o).run P w = .ok (.value (.func (.func f) #[] (caps.map a.eval))) w := by simp [execOp, ho, Instr.makeFunc, hf']
        unfold Oper.wp
        rw [hr]
        refine hn _ _ _ _ _ _ _ _ hv hh AK.refl (.fn f _ _ (by simp) fun j x hj => ?_)
        simp only [List.getElem?_map, Option.map_eq_some_iff] at hj
        obtain ⟨y, hy, rfl⟩ := hj
        have : (caps.map a.eval).toList[j]? = some (a.eval y) := by rw [Array.toList_map, List.getElem?_map, hy]; rfl
        rw [getD_arr, List.getD_eq_getElem?_getD, this]
        exact hx y
      · cases hv
    · cases hv

/-- The state of a piece of code, since a base. -/
structure St (w0 : World) (M0 : Nat → Prop) (β0 : Nat → Option Nat) (cp0 : Nat → Nat) (h0 : Hp) (nt : Nat) (s : Tm) (h : Hp) (kl : List Nat) (a : Act) (w : World) : Prop where
  ex : ∃ M β cp, HeapRel w M β cp h ∧ (∀ t, Rep w M β cp (lk s t) (a.tmps.getD t undef)) ∧ AK w0 M0 β0 cp0 h0 w M β cp h kl
  nt : a.tmps.size = nt
  df : a.defers = []

variable {w0 : World} {M0 : Nat → Prop} {β0 : Nat → Option Nat} {cp0 : Nat → Nat} {h0 : Hp} {nt : Nat} {kl : List Nat}

theorem put_rep {d : Option Tmp} {v : AV} {v' : Value} {s' : Tm} (hs : put nt d v s = some s') (hn : a.tmps.size = nt) (ht : ∀ t, Rep w M β cp (lk s t) (a.tmps.getD t undef)) (hv : Rep w M β cp v v') :
    (∀ t, Rep w M β cp (lk s' t) ((a.put d v').tmps.getD t undef)) ∧ (a.put d v').tmps.size = nt ∧ (a.put d v').defers = a.defers := by
  unfold put at hs
  split at hs
  · cases hs; exact ⟨ht, hn, rfl⟩
  · rename_i d
    split at hs
    · rename_i q
      have q := blt_iff.1 q
      cases hs
      refine ⟨fun t => ?_, by simpa [Act.put] using hn, rfl⟩
      simp only [lk, Act.put]
      split
      · rename_i q2
        have q2 := beq_iff.1 q2
        subst q2
        have : (a.tmps.setIfInBounds d v').getD d undef = v' := by simp [Array.getD_eq_getD_getElem?, hn, q]
        rw [this]
        exact hv
      · rename_i q2
        have q2 : d ≠ t := fun e => by rw [beq_iff.2 e] at q2; cases q2
        have : (a.tmps.setIfInBounds d v').getD t undef = a.tmps.getD t undef := by simp [Array.getD_eq_getD_getElem?, Array.getElem?_setIfInBounds, q2]
        rw [this]
        exact ht t
    · cases hs

theorem lk_set {d : Nat} {v : AV} (ht : ∀ t, Rep w M β cp (lk s t) (a.tmps.getD t undef)) (hv : Rep w M β cp v (a.tmps.getD d undef)) : ∀ t, Rep w M β cp (lk ((d, v) :: s) t) (a.tmps.getD t undef) := by
  intro t
  simp only [lk]
  split
  · rename_i q; have q := beq_iff.1 q; subst q; exact hv
  · exact ht t

theorem vcOps_sound (hE : EnvOk P E) (hZ : Zl E) (hC : ConOk P con) {ops : Array Oper} {K : Tm → Hp → List Nat → Prop} {Q : Exit → Act → World → Prop}
    (hQ : ∀ s h kl a w, K s h kl → St w0 M0 β0 cp0 h0 nt s h kl a w → Q .normal a w) :
    ∀ (r : List Oper) (i : Nat), r = ops.toList.drop i → ∀ (s : Tm) (h : Hp) (kl : List Nat) (a : Act) (w : World), vcOps E con nt ops.toList r s h kl K → St w0 M0 β0 cp0 h0 nt s h kl a w →
      wpOps P ops Q (List.range' i r.length) a w
  | [], i, _, s, h, kl, a, w, hv, hst => hQ s h kl a w hv hst
  | o :: r, i, hr, s, h, kl, a, w, hv, hst => by
    have hoi : ops[i]? = some o := by
      have : (ops.toList.drop i)[0]? = some o := by rw [← hr]; rfl
      simpa [List.getElem?_drop] using this
    have hr' : r = ops.toList.drop (i + 1) := by
      rw [← List.tail_drop, ← hr]; rfl
    have ih := vcOps_sound hE hZ hC hQ r (i + 1) hr'
    simp only [List.length_cons, List.range'_succ, wpOps, hoi]
    obtain ⟨⟨M, β, cp, hh, ht, hak⟩, hnt, hdf⟩ := hst
    have run : ∀ s1 : Tm, (∀ t, Rep w M β cp (lk s1 t) (a.tmps.getD t undef)) → (vcOp E con o s1 h fun v h' kl' => match put nt o.dst v (killTm kl' s1) with
      | some s' => vcOps E con nt ops.toList r s' h' (kl' ++ kl) K
      | none => Bad 100) → o.wp P a w (wpOps P ops Q (List.range' (i + 1) r.length)) Q := by
      intro s1 ht1 hv1
      refine vcOp_sound hE hZ hC hh ht1 hv1 fun v' w' M' β' cp' v h' kl' hK hh' hak' hrep => ?_
      split at hK
      · rename_i s' hput
        have ht2 : ∀ t, Rep w' M' β' cp' (lk (killTm kl' s1) t) (a.tmps.getD t undef) := fun t => by rw [lk_killTm]; exact hak'.rep (ht1 t)
        obtain ⟨p1, p2, p3⟩ := put_rep hput hnt ht2 hrep
        exact ih s' h' (kl' ++ kl) _ w' hK ⟨⟨M', β', cp', hh', p1, hak.trans hak'⟩, p2, p3.trans hdf⟩
      · cases hK
    have skip : ∀ s1 : Tm, (∀ t, Rep w M β cp (lk s1 t) (a.tmps.getD t undef)) → (match put nt o.dst (.tup []) s1 with
      | some s' => vcOps E con nt ops.toList r s' h kl K
      | none => Bad 101) → wpOps P ops Q (List.range' (i + 1) r.length) (a.put o.dst undef) w := by
      intro s1 ht1 hv1
      split at hv1
      · rename_i s' hput
        obtain ⟨p1, p2, p3⟩ := put_rep hput hnt ht1 (.tup [] #[] rfl fun j x hj => by simp at hj)
        exact ih s' h kl _ w hv1 ⟨⟨M, β, cp, hh, p1, hak⟩, p2, p3.trans hdf⟩
      · cases hv1
    unfold vcOps at hv
    dsimp only at hv
    split at hv
    · rename_i hg
      rw [if_pos (by simp [Region.wanted, hg])]
      exact .inl (run s ht hv)
    · rename_i j b hg
      split at hv
      · cases hv
      · rename_i d hd
        have hdj : (ops[j]?).bind (·.dst) = some d := by
          rw [nth_eq, List.getD_eq_getElem?_getD, List.getElem?_map] at hd
          rw [← Array.getElem?_toList]
          cases hoj : ops.toList[j]? with
          | none => rw [hoj] at hd; simp at hd
          | some x => rw [hoj] at hd; simpa using hd
        have hw : ∀ x : Bool, a.tmps.getD d undef = .bool x → Region.wanted o (yielded ops a.tmps) = (x == b) := by
          intro x hx
          have hlt : d < a.tmps.size := by
            rcases Nat.lt_or_ge d a.tmps.size with h1 | h1
            · exact h1
            · simp [Array.getD_eq_getD_getElem?, Array.getElem?_eq_none h1, undef] at hx
          have : a.tmps[d]? = some (.bool x) := by
            rw [Array.getElem?_eq_getElem hlt]
            simpa [Array.getD, hlt] using hx
          simp [Region.wanted, hg, yielded, hdj, this]
        have hd1 := ht d
        have wt : Region.wanted o (yielded ops a.tmps) = true → ∀ s1 : Tm, (∀ t, Rep w M β cp (lk s1 t) (a.tmps.getD t undef)) → (vcOp E con o s1 h fun v h' kl' => match put nt o.dst v (killTm kl' s1) with
            | some s' => vcOps E con nt ops.toList r s' h' (kl' ++ kl) K
            | none => Bad 100) → (if Region.wanted o (yielded ops a.tmps) = true then o.wp P a w (wpOps P ops Q (List.range' (i + 1) r.length)) Q ∨ (o.asks P a w ∧ LetsOut Q) else wpOps P ops Q (List.range' (i + 1) r.length) (a.put o.dst undef) w) := by
          intro h1 s1 h2 h3
          rw [if_pos h1]
          exact .inl (run s1 h2 h3)
        have wf : Region.wanted o (yielded ops a.tmps) = false → ∀ s1 : Tm, (∀ t, Rep w M β cp (lk s1 t) (a.tmps.getD t undef)) → (match put nt o.dst (.tup []) s1 with
            | some s' => vcOps E con nt ops.toList r s' h kl K
            | none => Bad 101) → (if Region.wanted o (yielded ops a.tmps) = true then o.wp P a w (wpOps P ops Q (List.range' (i + 1) r.length)) Q ∨ (o.asks P a w ∧ LetsOut Q) else wpOps P ops Q (List.range' (i + 1) r.length) (a.put o.dst undef) w) := by
          intro h1 s1 h2 h3
          rw [if_neg (by simp [h1])]
          exact skip s1 h2 h3
        split at hv
        · rename_i x hl
          rw [hl] at hd1
          have hw := hw x (rep_bc hd1)
          split at hv
          · exact wt (by rw [hw]; rfl) s ht hv
          · exact wt (by rw [hw]; rfl) s ht hv
          · rename_i n1 n2
            refine wf ?_ s ht hv
            rw [hw]
            cases x <;> cases b <;> first | rfl | exact (n1 rfl rfl).elim | exact (n2 rfl rfl).elim
        · rename_i x hl
          rw [hl] at hd1
          have hx := rep_b hd1
          have hw := hw _ hx
          split at hv
          · cases hv with
            | mk h1 h2 =>
              cases h1 with
              | mk h1 =>
                cases h2 with
                | mk h2 =>
                  cases hb : x () with
                  | true => exact wt (by rw [hw, hb]; rfl) _ (lk_set ht (by rw [hx, hb]; exact .c (.bc true))) (h1 hb).out
                  | false => exact wf (by rw [hw, hb]; rfl) _ (lk_set ht (by rw [hx, hb]; exact .c (.bc false))) (h2 hb).out
          · cases hv with
            | mk h1 h2 =>
              cases h1 with
              | mk h1 =>
                cases h2 with
                | mk h2 =>
                  cases hb : x () with
                  | true => exact wf (by rw [hw, hb]; rfl) _ (lk_set ht (by rw [hx, hb]; exact .c (.bc true))) (h1 hb).out
                  | false => exact wt (by rw [hw, hb]; rfl) _ (lk_set ht (by rw [hx, hb]; exact .c (.bc false))) (h2 hb).out
        · rename_i hl
          rw [hl] at hd1
          obtain ⟨cs, he, hL⟩ := rep_tup hd1
          refine wf ?_ s ht hv
          simp only [Region.wanted, hg, yielded, hdj, Option.bind_some]
          cases hx : a.tmps[d]? with
          | none => rfl
          | some v =>
            have : a.tmps.getD d undef = v := by simp [Array.getD_eq_getD_getElem?, hx]
            rw [he] at this
            subst this
            rfl
        · cases hv

end
end Go.Abs
