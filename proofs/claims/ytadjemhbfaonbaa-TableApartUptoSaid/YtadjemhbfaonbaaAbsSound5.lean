/- The abstract step is right: all operations. -/
import Derived.Test.YtadjemhbfaonbaaAbsSound4
set_option linter.all false
namespace Go.Abs
open Go
section
variable {P : Program} {E : Env} {o : Oper} {a : Act} {w : World} {M : Nat → Prop} {β : Nat → Option Nat} {cp : Nat → Nat} {h : Hp} {s : Tm} {nid : Nat}

theorem add_add' {a : Addr} {i j : Nat} : (a.add i).add j = a.add (i + j) := by
  unfold Addr.add
  by_cases hi : i = 0 <;> by_cases hj : j = 0 <;> simp [hi, hj, Nat.add_assoc]

theorem fieldPlace_ok {ad : Addr} {f : Field} (h0 : 0 < P.cellsOf f.type) : (fieldPlace ad f).run P w = .ok (ad.add f.offset) w := by
  cases hi : P.info? f.type with
  | none => simp [Program.cellsOf, hi] at h0
  | some i =>
    have : i.size ≠ 0 := by simp [Program.cellsOf, hi] at h0; omega
    simp [fieldPlace, sizeOf, typeInfo, hi, this]

theorem fieldAddr_sound {t : TypeId} {flat : Option (List LK)} {fs : List (Nat × TypeId × Nat)} {sz : Nat} {z : List AV} {x : Operand} {k : Nat} (hT : TyOk P t (.struct flat fs sz z)) (hh : HeapRel w M β cp h)
    (ho : o.op = .fieldAddr t x k) {X : AV} (hx : Rep w M β cp X (a.eval x)) {ofs tt n : Nat} (hf : nth (0, 0, 0) fs k = (ofs, tt, n)) (hk : k < fs.length) (hn : 0 < n) {Y : AV}
    (hY : (∃ b p, X = .ptr b p ∧ Y = .ptr b (p + ofs)) ∨ (∃ b q j p, X = .ept b q j p ∧ Y = .ept b q j (p + ofs)) ∨ ∃ l, X = .rp l ∧ ofs < l.length ∧ Y = .rp (l.drop ofs)) :
    Good P o a w M β cp h nid Y .no := by
  obtain ⟨⟨fields, hu, hfs, _⟩, _⟩ := hT
  have hkl : k < fields.size := by rw [← hfs] at hk; simpa using hk
  have hfk : fields[k]? = some fields[k] := Array.getElem?_eq_getElem hkl
  have hfe : (fields[k].offset, fields[k].type, P.cellsOf fields[k].type) = (ofs, tt, n) := by
    rw [← hf, nth_eq, List.getD_eq_getElem?_getD, ← hfs, List.getElem?_map]
    simp [hkl]
  simp only [Prod.mk.injEq] at hfe
  obtain ⟨e1, e2, e3⟩ := hfe
  have run : ∀ ad, a.eval x = .pointer (some ad) → (execOp a.eval o).run P w = .ok (.value (.pointer (some (ad.add ofs)))) w := by
    intro ad he
    have := fieldPlace_ok (P := P) (w := w) (ad := ad) (f := fields[k]) (by omega)
    rw [e1] at this
    simp [execOp, ho, Instr.fieldAt, run_underlying hu, hfk, Instr.sureAddr, he, this]
  rcases hY with ⟨b, p, rfl, rfl⟩ | ⟨b, q, j, p, rfl, rfl⟩ | ⟨l, rfl, hl, rfl⟩
  · obtain ⟨g, hg, he⟩ := rep_ptr hx
    exact good_val hh (run _ he) (by rw [addr_add]; exact .ptr b _ g hg)
  · obtain ⟨g, hg, he⟩ := rep_ept hx
    exact good_val hh (run _ he) (by rw [addr_add, Nat.add_assoc]; exact .ept b q j _ g hg)
  · obtain ⟨ad, u, he, hM, hl0, hc, h1, hr⟩ := rep_rp hx
    refine good_val hh (run _ he) (.c (.rp _ (ad.add ofs) (fun j => u (ofs + j)) (by rw [add_block]; exact hM) (by simp; omega) (fun j hj => ?_) (fun j hj => h1 _ (by simp at hj; omega)) fun j y hj => ?_))
    · have := hc (ofs + j) (by simp at hj; omega)
      rwa [add_add']
    · exact hr _ y (by rw [← hj, List.getElem?_drop])
theorem index_sound {t : TypeId} {e : TypeId} {sz bytes : Nat} {z : List AV} {x y : Operand} (hT : TyOk P t (.slice e sz bytes z)) (hh : HeapRel w M β cp h) (ho : o.op = .indexAddr t x y) {X : AV} {k : IntKind} {i : Th Int}
    (hx : Rep w M β cp X (a.eval x)) (hy : Rep w M β cp (.i k i) (a.eval y)) {Y : AV}
    (hY : (∃ n f, X = .sl sz n f ∧ 0 ≤ i () ∧ i () < n () ∧ Y = .rp (f fun _ => (i ()).toNat)) ∨ (∃ b n, X = .own b n ∧ 0 ≤ i () ∧ i () < n () ∧ Y = .ept b sz (fun _ => (i ()).toNat) 0) ∨ (∃ b p n, X = .vw b sz p n ∧ 0 ≤ i () ∧ i () < n () ∧ Y = .ept b sz (fun _ => p () + (i ()).toNat) 0)) :
    Good P o a w M β cp h nid Y .no := by
  obtain ⟨hu, hsz, _, hi, _⟩ := hT
  have ey := rep_i hy
  have run : ∀ ad n c, a.eval x = .slice (some ad) n c → 0 ≤ i () → i () < n → (execOp a.eval o).run P w = .ok (.value (.pointer (some (ad.add ((i ()).toNat * sz))))) w := by
    intro ad n c he h1 h2
    simp [execOp, ho, Instr.indexAt, ey, asIntOf, run_underlying hu, he, h1, h2, run_sizeOf hi]
  rcases hY with ⟨n, f, rfl, h1, h2, rfl⟩ | ⟨b, n, rfl, h1, h2, rfl⟩ | ⟨b, p, n, rfl, h1, h2, rfl⟩
  · obtain ⟨ao, c, he, hc, hm, hr⟩ := rep_sl hx
    obtain ⟨ad, u, rfl, hM, hs, hl, hcell, ho1, hrep⟩ := hr (by omega)
    have hlt : (i ()).toNat < n () := by omega
    have hlen := hl _ hlt
    refine good_val hh (run _ _ _ he h1 h2) (.c (.rp _ _ (fun j => u (i ()).toNat j) (by rw [add_block]; exact hM) (by rw [hlen]; exact hsz) (fun j hj => ?_) (fun j hj => ho1 _ _ hlt (by rw [← hlen]; exact hj)) fun j y hj => hrep _ j y hlt hj))
    have := hcell (i ()).toNat j hlt (by rw [← hlen]; exact hj)
    rwa [add_add']
  · rcases rep_own hx with ⟨h0, _⟩ | ⟨g, hg, hn, he⟩
    · omega
    · refine good_val hh (run _ _ _ he h1 h2) ?_
      rw [addr_add]
      have := Rep.ept (w := w) (M := M) (cp := cp) b sz (fun _ => (i ()).toNat) 0 g hg
      simpa using this
  · rcases rep_vw hx with ⟨h0, _⟩ | ⟨g, hg, hn, he⟩
    · omega
    · refine good_val hh (run _ _ _ he h1 h2) ?_
      rw [addr_add]
      have := Rep.ept (w := w) (M := M) (cp := cp) b sz (fun _ => p () + (i ()).toNat) 0 g hg
      rwa [show (p () + (i ()).toNat) * sz + 0 = p () * sz + (i ()).toNat * sz by rw [Nat.add_mul]; omega] at this

theorem len_sound {c : Call} {x : Operand} {t : TypeId} {T : Ty} (hh : HeapRel w M β cp h) (ho : o.op = .call c) (hc : c.callee = .builtin .len) (ha : c.args.toList = [x]) (hta : c.argTypes[0]? = some t) (hT : TyOk P t T) {X : AV}
    (hx : Rep w M β cp X (a.eval x)) {n : Th Int}
    (hX : ((∃ e sz b z, T = .slice e sz b z) ∧ ((∃ sz m f, X = .sl sz m f ∧ n () = m ()) ∨ (∃ b m, X = .own b m ∧ n () = m ()) ∨ (X = .nil ∧ n () = 0) ∨ (∃ b sz p m, X = .vw b sz p m ∧ n () = m ()) ∨ ∃ b m, X = .nn b m ∧ n () = m ())) ∨ (T = .str ∧ ∃ v, X = .s v ∧ n () = (v ()).size)) :
    Good P o a w M β cp h nid (.i .i64 n) .no := by
  have hargs : c.args = #[x] := Array.toList_inj.1 ha
  have run : ∀ v : Value, (Builtin.len_ c.argTypes o.type #[a.eval x]).run P w = .ok v w → (execOp a.eval o).run P w = .ok (.value v) w := by
    intro v hv
    simp [execOp, ho, resolve, hc, invoke, builtin, hargs, hv]
  have fin : (Builtin.len_ c.argTypes o.type #[a.eval x]).run P w = .ok (.int .i64 (n ())) w := by
    rcases hX with ⟨⟨e, sz, b, z, rfl⟩, hX⟩ | ⟨rfl, v, rfl, hn⟩
    · have hu := hT.1
      have fin2 : ∀ ao m c', a.eval x = .slice ao m c' → n () = m → (Builtin.len_ c.argTypes o.type #[a.eval x]).run P w = .ok (.int .i64 (n ())) w := by
        intro ao m c' he hm
        simp [Builtin.len_, hta, run_underlying hu, he, goInt, hm]
      rcases hX with ⟨sz, m, f, rfl, hn⟩ | ⟨b, m, rfl, hn⟩ | ⟨rfl, hn⟩ | ⟨b, sz', p, m, rfl, hn⟩ | ⟨b, m, rfl, hn⟩
      · obtain ⟨ao, c', he, _⟩ := rep_sl hx
        exact fin2 _ _ _ he hn
      · rcases rep_own hx with ⟨h0, he⟩ | ⟨g, _, _, he⟩
        · exact fin2 _ _ _ he (by omega)
        · exact fin2 _ _ _ he hn
      · exact fin2 _ _ _ (rep_nil hx) (by simpa using hn)
      · rcases rep_vw hx with ⟨h0, _, _, _, he⟩ | ⟨g, _, _, he⟩
        · exact fin2 _ _ _ he (by omega)
        · exact fin2 _ _ _ he hn
      · obtain ⟨g, _, _, he⟩ := rep_nn hx
        exact fin2 _ _ _ he hn
    · have he := rep_s hx
      simp [Builtin.len_, hta, run_underlying hT.1, he, goInt, hn]
  exact good_val hh (run _ fin) (.c (.i .i64 n))


theorem bound_run {d : Th Int} {O : Option AV} {x : Option Operand} {l : Th Int} (hb : bound d O = some l) (hO : O = evO s x) (hx : ∀ x, Rep w M β cp (ev s x) (a.eval x)) :
    (x = none ∧ l = d) ∨ ∃ y k, x = some y ∧ a.eval y = .int k (l ()) := by
  cases x with
  | none => subst hO; simp only [evO, bound, Option.some.injEq] at hb; exact .inl ⟨rfl, hb.symm⟩
  | some y =>
    subst hO
    simp only [evO] at hb
    cases he : ev s y with
    | i k n => rw [he] at hb; simp only [bound, Option.some.injEq] at hb; subst hb; exact .inr ⟨y, k, rfl, rep_i (by rw [← he]; exact hx y)⟩
    | _ => rw [he] at hb; simp [bound] at hb

theorem run_bounds {isS : Bool} {len cap : Nat} {lo hi : Option Value} {l h : Int} (hlo : (lo = none ∧ l = 0) ∨ ∃ k, lo = some (.int k l)) (hhi : (hi = none ∧ h = len) ∨ ∃ k, hi = some (.int k h))
    (h1 : 0 ≤ l) (h2 : l ≤ h) (h3 : h ≤ cap) : (Instr.sliceBounds isS len cap lo hi none).run P w = .ok (l.toNat, h.toNat, cap) w := by
  have hb : ∀ k (n : Int) (c : Nat) (code : BoundsCode), 0 ≤ n → n ≤ c → (Instr.sliceBound (.int k n) c code).run P w = .ok n.toNat w := by
    intro k n c code g1 g2
    simp [Instr.sliceBound, asIntOf, g1, g2]
  rcases hhi with ⟨rfl, rfl⟩ | ⟨k, rfl⟩ <;> rcases hlo with ⟨rfl, rfl⟩ | ⟨k', rfl⟩
  · simp [Instr.sliceBounds]
  · simp [Instr.sliceBounds, hb k' l len _ h1 h2]
  · simp [Instr.sliceBounds, hb k h cap _ (by omega) h3]
  · have hh : ((h.toNat : Nat) : Int) = h := by omega
    simp [Instr.sliceBounds, hb k h cap _ (by omega) h3, hb k' l h.toNat _ h1 (by omega)]

theorem rowsOf_nn {b : Nat} {n k : Th Nat} (hr : rowsOf h (.nn b n) = some k) : ∃ e sz f, nth .dead h b = .vec e sz k f := by
  simp only [rowsOf] at hr
  split at hr
  · rename_i e sz k' f hq
    cases hr
    exact ⟨_, _, _, hq⟩
  · cases hr
theorem slice_sound {T : Ty} {t : TypeId} {x : Operand} {lo hi : Option Operand} (hT : TyOk P t T) (hh : HeapRel w M β cp h) (ho : o.op = .slice t x lo hi none) (hx : ∀ x, Rep w M β cp (ev s x) (a.eval x)) :
    (aSlice T (ev s x) (evO s lo) (evO s hi) (rowsOf h (ev s x))).Sound (Good P o a w M β cp h nid) := by
  have opt : ∀ {d : Th Int} {y : Option Operand} {l : Th Int}, ((y = none ∧ l = d) ∨ ∃ z k, y = some z ∧ a.eval z = .int k (l ())) → (y.map a.eval = none ∧ l () = d ()) ∨ ∃ k, y.map a.eval = some (.int k (l ())) := by
    rintro d y l (⟨rfl, rfl⟩ | ⟨z, k, rfl, hz⟩)
    · exact .inl ⟨rfl, rfl⟩
    · exact .inr ⟨k, by simp [hz]⟩
  have hxx := hx x
  unfold aSlice
  split
  · rename_i e tz b z sz n f hX
    rw [hX] at hxx
    split
    · rename_i l h' q1 hl hh'
      have q1 := beq_iff.1 q1
      subst q1
      rintro ⟨h1, h2, h3⟩
      obtain ⟨hu, hsz, _, hinf, _⟩ := hT
      have bl := opt (bound_run hl rfl hx)
      have bh := opt (bound_run hh' rfl hx)
      obtain ⟨ao, c, he, hnc, hcm, hr⟩ := rep_sl hxx
      have hb := run_bounds (P := P) (w := w) (isS := true) (len := n ()) (cap := c) (lo := lo.map a.eval) (hi := hi.map a.eval) (l := l ()) (h := h' ()) bl bh h1 h2 (by omega)
      refine good_val hh (v' := .slice (if c = (l ()).toNat then ao else ao.map (·.add ((l ()).toNat * tz))) ((h' ()).toNat - (l ()).toNat) (c - (l ()).toNat)) ?_ (.c ?_)
      · simp [execOp, ho, Instr.sliceAt, Instr.slice, run_underlying hu, he, hb, run_sizeOf hinf]
      · have hn' : (h' ()).toNat - (l ()).toNat = (h' () - l ()).toNat := by omega
        rw [hn']
        by_cases h0 : (h' () - l ()).toNat = 0
        · have e := congrArg (fun m => Value.slice (if c = (l ()).toNat then ao else ao.map (·.add ((l ()).toNat * tz))) m (c - (l ()).toNat)) h0
          rw [e]
          exact .sl0 tz _ _ _ _ h0 (by omega)
        · obtain ⟨ad, u, rfl, hM, hs, hlen, hcell, h1o, hrep⟩ := hr (by omega)
          rw [if_neg (by omega)]
          refine .sl tz (fun _ => (h' () - l ()).toNat) _ (ad.add ((l ()).toNat * tz)) _ (fun i j => u (i + (l ()).toNat) j) (by rw [add_block]; exact hM) hs (by show (h' () - l ()).toNat ≤ _; omega) (by omega) (fun i hi => hlen _ ?_) (fun i j hi hj => ?_) (fun i j hi hj => h1o _ _ ?_ hj) (fun i j y hi hj => hrep _ j y ?_ hj)
          all_goals have hi : i < (h' () - l ()).toNat := hi
          · show i + (l ()).toNat < n (); omega
          · have := hcell (i + (l ()).toNat) j (by omega) hj
            rw [add_add']
            rwa [show (i + (l ()).toNat) * tz + j = (l ()).toNat * tz + (i * tz + j) by rw [Nat.add_mul]; omega] at this
          · omega
          · omega
    · trivial
  · rename_i v hX
    rw [hX] at hxx
    split
    · rename_i l h' hl hh'
      rintro ⟨h1, h2, h3⟩
      have bl := opt (bound_run hl rfl hx)
      have bh := opt (bound_run hh' rfl hx)
      have he := rep_s hxx
      have hb := run_bounds (P := P) (w := w) (isS := false) (len := (v ()).size) (cap := (v ()).size) (lo := lo.map a.eval) (hi := hi.map a.eval) (l := l ()) (h := h' ()) bl bh h1 h2 (by omega)
      refine good_val hh (v' := .string ((v ()).extract (l ()).toNat (h' ()).toNat)) ?_ (.c (.s fun _ => (v ()).extract (l ()).toNat (h' ()).toNat))
      simp [execOp, ho, Instr.sliceAt, Instr.slice, run_underlying hT.1, he, hb]
    · trivial
  · rename_i e tz b' z b n hX
    rw [hX] at hxx
    split
    case h_2 =>
      split
      · rename_i l h' hl hh'
        rintro ⟨h1, h2, h3⟩
        obtain ⟨hu, hsz, _, hinf, _⟩ := hT
        have bl := opt (bound_run hl rfl hx)
        have bh := opt (bound_run hh' rfl hx)
        rcases rep_own hxx with ⟨h0, he⟩ | ⟨g, hg, hn, he⟩
        · have hb := run_bounds (P := P) (w := w) (isS := true) (len := 0) (cap := 0) (lo := lo.map a.eval) (hi := hi.map a.eval) (l := l ()) (h := h' ()) bl (by simpa [h0] using bh) (by omega) h2 (by omega)
          have hz2 : (l ()).toNat = 0 := by omega
          have hz3 : (h' ()).toNat = 0 := by omega
          rw [hz2, hz3] at hb
          refine good_val hh (v' := .slice none 0 0) ?_ (.vw0 b tz _ _ none 0 (by show (h' () - l ()).toNat = 0; omega) (by unfold maxLen; omega))
          simp [execOp, ho, Instr.sliceAt, Instr.slice, run_underlying hu, he, hb, run_sizeOf hinf]
        · have hb := run_bounds (P := P) (w := w) (isS := true) (len := n ()) (cap := cp b) (lo := lo.map a.eval) (hi := hi.map a.eval) (l := l ()) (h := h' ()) bl bh (by omega) h2 (by omega)
          have hn' : (h' ()).toNat - (l ()).toNat = (h' () - l ()).toNat := by omega
          by_cases hc : cp b = (l ()).toNat
          · have hz : (h' () - l ()).toNat = 0 := by omega
            refine good_val hh (v' := .slice (some ⟨g, 0, none⟩) 0 0) ?_ (.vw0 b tz _ _ _ 0 hz (by unfold maxLen; omega))
            have hh2 : (h' ()).toNat = (l ()).toNat := by omega
            rw [hc, hh2] at hb
            rw [hc] at he
            simp [execOp, ho, Instr.sliceAt, Instr.slice, run_underlying hu, he, hb, run_sizeOf hinf]
          · refine good_val hh (v' := .slice (some ⟨g, (l ()).toNat * tz, none⟩) (h' () - l ()).toNat (cp b - (l ()).toNat)) ?_ (.vw b tz (fun _ => (l ()).toNat) (fun _ => (h' () - l ()).toNat) g hg (by show (l ()).toNat + (h' () - l ()).toNat ≤ _; omega))
            simp [execOp, ho, Instr.sliceAt, Instr.slice, run_underlying hu, he, hb, run_sizeOf hinf, hc, hn', addr_add]
      · trivial
    split
    · rename_i l h' hl hh'
      rintro ⟨h1, h2, h3⟩
      obtain ⟨hu, hsz, _, hinf, _⟩ := hT
      have bl := opt (bound_run hl rfl hx)
      have bh := opt (bound_run hh' rfl hx)
      rw [h1] at bl
      rcases rep_own hxx with ⟨h0, he⟩ | ⟨g, hg, hn, he⟩
      · have hb := run_bounds (P := P) (w := w) (isS := true) (len := 0) (cap := 0) (lo := lo.map a.eval) (hi := hi.map a.eval) (l := 0) (h := h' ()) bl (by simpa [h0] using bh) (by omega) h2 (by omega)
        have hz : (h' ()).toNat = 0 := by omega
        refine good_val hh (v' := .slice none 0 0) ?_ (.own0 b _ hz)
        simp [execOp, ho, Instr.sliceAt, Instr.slice, run_underlying hu, he, hb, run_sizeOf hinf, hz]
      · have hb := run_bounds (P := P) (w := w) (isS := true) (len := n ()) (cap := cp b) (lo := lo.map a.eval) (hi := hi.map a.eval) (l := 0) (h := h' ()) bl bh (by omega) h2 (by omega)
        refine good_val hh (v' := .slice (some ⟨g, 0, none⟩) (h' ()).toNat (cp b)) ?_ (.own b (fun _ => (h' ()).toNat) g hg (by show (h' ()).toNat ≤ _; omega))
        simp [execOp, ho, Instr.sliceAt, Instr.slice, run_underlying hu, he, hb, run_sizeOf hinf, Addr.add]
    · trivial
  · rename_i e tz b' z b n hX
    rw [hX] at hxx
    obtain ⟨hu, hsz, _, hinf, _⟩ := hT
    obtain ⟨g, hg, hn, he⟩ := rep_nn hxx
    split
    · split
      · rename_i _ hlo _ h' hh'
        rintro ⟨h2, h3⟩
        have hl0 : lo = none := by
          cases lo with
          | none => rfl
          | some y => simp [evO] at hlo
        subst hl0
        have bh := opt (bound_run hh' rfl hx)
        have hb := run_bounds (P := P) (w := w) (isS := true) (len := n ()) (cap := cp b) (lo := none) (hi := hi.map a.eval) (l := 0) (h := h' ()) (.inl ⟨rfl, rfl⟩) bh (by omega) h2 (by omega)
        refine good_val hh (v' := .slice (some ⟨g, 0, none⟩) (h' ()).toNat (cp b)) ?_ (.nn b (fun _ => (h' ()).toNat) g hg (by show (h' ()).toNat ≤ _; omega))
        simp [execOp, ho, Instr.sliceAt, Instr.slice, run_underlying hu, he, hb, run_sizeOf hinf, addr_add]
      · trivial
    · split
      · rename_i l h' k hl hh' hrows
        rintro ⟨h1, h2, h3⟩
        have bl := opt (bound_run hl rfl hx)
        have bh := opt (bound_run hh' rfl hx)
        have hkc : k () ≤ cp b := by
          rw [hX] at hrows
          obtain ⟨e0, sz0, f0, hb0⟩ := rowsOf_nn hrows
          rcases hh.obj b _ (nth_some hb0 rfl) with ⟨e1, _⟩ | ⟨g', cur, e1, e2, e3, e4, e5, e6, e7, e8, e9⟩
          · rw [hg] at e1; cases e1
          · exact e6
        have hb := run_bounds (P := P) (w := w) (isS := true) (len := n ()) (cap := cp b) (lo := lo.map a.eval) (hi := hi.map a.eval) (l := l ()) (h := h' ()) bl bh (by omega) h2 (by omega)
        have hn' : (h' ()).toNat - (l ()).toNat = (h' () - l ()).toNat := by omega
        by_cases hc : cp b = (l ()).toNat
        · have hz : (h' () - l ()).toNat = 0 := by omega
          refine good_val hh (v' := .slice (some ⟨g, 0, none⟩) 0 0) ?_ (.vw0 b tz _ _ _ 0 hz (by unfold maxLen; omega))
          have hh2 : (h' ()).toNat = (l ()).toNat := by omega
          rw [hc, hh2] at hb
          rw [hc] at he
          simp [execOp, ho, Instr.sliceAt, Instr.slice, run_underlying hu, he, hb, run_sizeOf hinf]
        · refine good_val hh (v' := .slice (some ⟨g, (l ()).toNat * tz, none⟩) (h' () - l ()).toNat (cp b - (l ()).toNat)) ?_ (.vw b tz (fun _ => (l ()).toNat) (fun _ => (h' () - l ()).toNat) g hg (by show (l ()).toNat + (h' () - l ()).toNat ≤ _; omega))
          simp [execOp, ho, Instr.sliceAt, Instr.slice, run_underlying hu, he, hb, run_sizeOf hinf, hc, hn', addr_add]
      · trivial
  · rename_i e tz b' z b sz p n hX
    rw [hX] at hxx
    split
    · rename_i l h' q1 hl hh'
      have q1 := beq_iff.1 q1
      subst q1
      rintro ⟨h1, h2, h3⟩
      obtain ⟨hu, hsz, _, hinf, _⟩ := hT
      have bl := opt (bound_run hl rfl hx)
      have bh := opt (bound_run hh' rfl hx)
      have hn' : (h' ()).toNat - (l ()).toNat = (h' () - l ()).toNat := by omega
      rcases rep_vw hxx with ⟨h0, ao, c, hcm, he⟩ | ⟨g, hg, hn, he⟩
      · have hb := run_bounds (P := P) (w := w) (isS := true) (len := 0) (cap := c) (lo := lo.map a.eval) (hi := hi.map a.eval) (l := l ()) (h := h' ()) bl (by simpa [h0] using bh) (by omega) h2 (by omega)
        have hz : (h' () - l ()).toNat = 0 := by omega
        have hz2 : (l ()).toNat = 0 := by omega
        have hz3 : (h' ()).toNat = 0 := by omega
        rw [hz2, hz3] at hb
        refine good_val hh (v' := .slice (if c = 0 then ao else ao.map (·.add (0 * tz))) 0 c) ?_ (.vw0 b tz _ _ _ c hz hcm)
        simp [execOp, ho, Instr.sliceAt, Instr.slice, run_underlying hu, he, hb, run_sizeOf hinf]
      · have hb := run_bounds (P := P) (w := w) (isS := true) (len := n ()) (cap := cp b - p ()) (lo := lo.map a.eval) (hi := hi.map a.eval) (l := l ()) (h := h' ()) bl bh (by omega) h2 (by omega)
        by_cases hc : cp b - p () = (l ()).toNat
        · have hz : (h' () - l ()).toNat = 0 := by omega
          refine good_val hh (v' := .slice (some ⟨g, p () * tz, none⟩) 0 0) ?_ (.vw0 b tz _ _ _ 0 hz (by unfold maxLen; omega))
          have hh2 : (h' ()).toNat = (l ()).toNat := by omega
          rw [hc, hh2] at hb
          rw [hc] at he
          simp [execOp, ho, Instr.sliceAt, Instr.slice, run_underlying hu, he, hb, run_sizeOf hinf]
        · have := Rep.vw (w := w) (M := M) (β := β) (cp := cp) b tz (fun _ => p () + (l ()).toNat) (fun _ => (h' () - l ()).toNat) g hg (by show p () + (l ()).toNat + (h' () - l ()).toNat ≤ _; omega)
          refine good_val hh (v' := .slice (some ⟨g, (p () + (l ()).toNat) * tz, none⟩) (h' () - l ()).toNat (cp b - (p () + (l ()).toNat))) ?_ this
          simp [execOp, ho, Instr.sliceAt, Instr.slice, run_underlying hu, he, hb, run_sizeOf hinf, hc, hn', addr_add, Nat.add_mul, Nat.sub_sub]
    · trivial
  · trivial

theorem run_bounds3 {len cap : Nat} {lo : Option Value} {k1 k2 : IntKind} {l h m : Int} (hlo : (lo = none ∧ l = 0) ∨ ∃ k, lo = some (.int k l)) (h1 : 0 ≤ l) (h2 : l ≤ h) (h3 : h ≤ m) (h4 : m ≤ cap) :
    (Instr.sliceBounds true len cap lo (some (.int k1 h)) (some (.int k2 m))).run P w = .ok (l.toNat, h.toNat, m.toNat) w := by
  have hb : ∀ k (n : Int) (c : Nat) (code : BoundsCode), 0 ≤ n → n ≤ c → (Instr.sliceBound (.int k n) c code).run P w = .ok n.toNat w := by
    intro k n c code g1 g2
    simp [Instr.sliceBound, asIntOf, g1, g2]
  have e1 : ((m.toNat : Nat) : Int) = m := by omega
  have e2 : ((h.toNat : Nat) : Int) = h := by omega
  rcases hlo with ⟨rfl, rfl⟩ | ⟨k', rfl⟩
  · simp [Instr.sliceBounds, hb k2 m cap _ (by omega) h4, hb k1 h m.toNat _ (by omega) (by omega)]
  · simp [Instr.sliceBounds, hb k2 m cap _ (by omega) h4, hb k1 h m.toNat _ (by omega) (by omega), hb k' l h.toNat _ h1 (by omega)]
theorem slice3_sound {T : Ty} {t : TypeId} {x : Operand} {lo hi : Option Operand} {mx : Operand} (hT : TyOk P t T) (hh : HeapRel w M β cp h) (ho : o.op = .slice t x lo hi (some mx)) (hx : ∀ x, Rep w M β cp (ev s x) (a.eval x)) :
    (aSlice3 T (ev s x) (evO s lo) (evO s hi) (some (ev s mx))).Sound (Good P o a w M β cp h nid) := by
  have opt : ∀ {d : Th Int} {y : Option Operand} {l : Th Int}, ((y = none ∧ l = d) ∨ ∃ z k, y = some z ∧ a.eval z = .int k (l ())) → (y.map a.eval = none ∧ l () = d ()) ∨ ∃ k, y.map a.eval = some (.int k (l ())) := by
    rintro d y l (⟨rfl, rfl⟩ | ⟨z, k, rfl, hz⟩)
    · exact .inl ⟨rfl, rfl⟩
    · exact .inr ⟨k, by simp [hz]⟩
  have hxx := hx x
  unfold aSlice3
  split
  · rename_i _ _ _ e tz b z l k1 h' k2 m hl hh' hm
    obtain ⟨hu, hsz, _, hinf, _⟩ := hT
    have bl := opt (bound_run hl rfl hx)
    obtain ⟨hi', rfl⟩ : ∃ y, hi = some y := by
      cases hi with
      | none => simp [evO] at hh'
      | some y => exact ⟨y, rfl⟩
    have eh : a.eval hi' = .int k1 (h' ()) := by
      have := hx hi'
      simp only [evO, Option.some.injEq] at hh'
      rw [hh'] at this
      exact rep_i this
    have em : a.eval mx = .int k2 (m ()) := by
      have := hx mx
      simp only [Option.some.injEq] at hm
      rw [hm] at this
      exact rep_i this
    have key : ∀ ao n c, a.eval x = .slice ao n c → 0 ≤ l () → l () ≤ h' () → h' () ≤ m () → m () ≤ c → Good P o a w M β cp h nid .any .no := by
      intro ao n c he g1 g2 g3 g4
      have hb := run_bounds3 (P := P) (w := w) (len := n) (cap := c) (lo := lo.map a.eval) (k1 := k1) (k2 := k2) bl g1 g2 g3 g4
      refine good_val hh (v' := .slice (if (m ()).toNat = (l ()).toNat then ao else ao.map (·.add ((l ()).toNat * tz))) ((h' ()).toNat - (l ()).toNat) ((m ()).toNat - (l ()).toNat)) ?_ (.c (.any _))
      simp [execOp, ho, Instr.sliceAt, Instr.slice, run_underlying hu, he, hb, eh, em, run_sizeOf hinf]
    split
    · rename_i sz n f hX
      rw [hX] at hxx
      rintro ⟨h1, h2, h3, h4⟩
      obtain ⟨ao, c, he, hnc, hcm, hr⟩ := rep_sl hxx
      exact key _ _ _ he h1 h2 h3 (by omega)
    · rename_i b n hX
      rw [hX] at hxx
      rintro ⟨h1, h2, h3, h4⟩
      rcases rep_own hxx with ⟨h0, he⟩ | ⟨g, hg, hn, he⟩
      · exact key _ _ _ he h1 h2 h3 (by omega)
      · exact key _ _ _ he h1 h2 h3 (by omega)
    · rename_i b n hX
      rw [hX] at hxx
      rintro ⟨h1, h2, h3, h4⟩
      obtain ⟨g, hg, hn, he⟩ := rep_nn hxx
      exact key _ _ _ he h1 h2 h3 (by omega)
    · trivial
  · trivial

theorem extract_sound {x : Operand} {k : Nat} {l : List AV} (hh : HeapRel w M β cp h) (ho : o.op = .extract x k) (hx : Rep w M β cp (.tup l) (a.eval x)) (hk : k < l.length) : Good P o a w M β cp h nid (nth .any l k) .no := by
  obtain ⟨cs, he, hl, hr⟩ := rep_tup hx
  have hlk : l[k]? = some l[k] := List.getElem?_eq_getElem hk
  have hcs : k < cs.size := by have := hl; simp at this; omega
  refine good_val hh (v' := cs.getD k undef) ?_ ?_
  · simp [execOp, ho, Instr.extract, he, hcs]
  · rw [nth_eq, List.getD_eq_getElem?_getD, hlk, getD_arr]
    exact hr k _ hlk

theorem minmax_sound {c : Call} {x y : Operand} {mx : Bool} (hh : HeapRel w M β cp h) (ho : o.op = .call c) (hc : c.callee = .builtin (if mx then .max else .min)) (ha : c.args.toList = [x, y]) {X Y : AV}
    (hx : Rep w M β cp X (a.eval x)) (hy : Rep w M β cp Y (a.eval y)) : (aMinMax mx X Y).Sound (Good P o a w M β cp h nid) := by
  have hargs : c.args = #[x, y] := Array.toList_inj.1 ha
  unfold aMinMax
  split
  · rename_i k p k' q
    have ex := rep_i hx
    have ey := rep_i hy
    cases mx with
    | true =>
      refine good_val hh (v' := .int k (if q () > p () then q () else p ())) ?_ (.c (.i k fun _ => if q () > p () then q () else p ()))
      simp [execOp, ho, resolve, hc, invoke, builtin, hargs, ex, ey, run_max_int2]
    | false =>
      refine good_val hh (v' := .int k (if q () < p () then q () else p ())) ?_ (.c (.i k fun _ => if q () < p () then q () else p ()))
      simp [execOp, ho, resolve, hc, invoke, builtin, hargs, ex, ey, run_min_int2]
  · trivial

/-- A new row. -/
theorem good_row (hh : HeapRel w M β cp h) (hn : nid ≤ h.length) (hd : β nid = none) {t : TypeId} {sz n : Nat} {f : Th Nat → List AV} {cur : Array Value} (c : Nat)
    (hr : (execOp a.eval o).run P w = .ok (.value (.slice (some ⟨w.heap.size, 0, none⟩) n c)) (w.alloc (.cells cur t))) (hc : cur.size = c * sz) (hcn : n ≤ c) (hcm : c ≤ maxLen)
    (h1 : ∀ k, k < n * sz → (cur.getD k undef).oneCell' = true) (hlen : ∀ i : Nat, i < n → (f fun _ => i).length = sz)
    (hf : ∀ (i j : Nat) (x : AV), i < n → (f fun _ => i)[j]? = some x → RepC w M x (cur.getD (i * sz + j) undef)) {N : Th Nat} (hN : N () = n) :
    Good P o a w M β cp h nid (.own nid N) (.new (.vec t sz N f)) := by
  have hk : ∀ k, k < w.heap.size → ¬ M k → (w.alloc (.cells cur t)).heap[k]? = w.heap[k]? ∧ ¬ (M k ∨ k = w.heap.size) := fun k hk hM => ⟨heap_alloc w _ k hk, by intro h; rcases h with h | h; exact hM h; omega⟩
  subst hN
  refine ⟨_, _, _, _, _, _, hr, .inl rfl, after_new hh hn hd (.cells cur t) c (.vec t sz N f) rfl (.inr ⟨w.heap.size, cur, by simp [updO], .inr rfl, heap_alloc_at w _, by simp [updN]; exact hc, h1, by simp [updN]; exact hcn, by simp [updN]; exact hcm, hlen, fun i j x hi hj => (hf i j x hi hj).keep hk⟩), ?_⟩
  have := Rep.own (w := w.alloc (.cells cur t)) (M := fun k => M k ∨ k = w.heap.size) (β := updO β nid (some w.heap.size)) (cp := updN cp nid c) nid N w.heap.size (by simp [updO]) (by simp [updN]; exact hcn)
  simpa [updN] using this

end
end Go.Abs
