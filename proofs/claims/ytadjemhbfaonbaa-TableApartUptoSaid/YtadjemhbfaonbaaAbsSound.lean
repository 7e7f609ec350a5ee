/- The abstract step is right. -/
import Derived.Test.YtadjemhbfaonbaaAbsHeap
import Derived.Laws.Entries
set_option linter.all false
namespace Go.Abs
open Go

def InfoOk (P : Program) (t : TypeId) (sz : Nat) (z : List AV) : Prop :=
  ∃ i, P.info? t = some i ∧ i.size = sz ∧ ∃ zv, i.zero = some zv ∧ zv.cells.toList.map valAV = z ∧ zv.cells.toList.all (·.oneCell') = true

def LK.fits : LK → Option TypeDesc → Bool
  | .i, some (.int _) => true
  | .b, some .bool => true
  | .s, some .string => true
  | _, _ => false
theorem LK.fits_i {u : Option TypeDesc} (h : LK.i.fits u = true) : ∃ k, u = some (.int k) := by
  unfold LK.fits at h
  split at h <;> first | contradiction | exact ⟨_, rfl⟩ | cases h
theorem LK.fits_b {u : Option TypeDesc} (h : LK.b.fits u = true) : u = some .bool := by
  unfold LK.fits at h
  split at h <;> first | contradiction | rfl | cases h
theorem LK.fits_s {u : Option TypeDesc} (h : LK.s.fits u = true) : u = some .string := by
  unfold LK.fits at h
  split at h <;> first | contradiction | rfl | cases h

/-- Fields of one cell each, in order, of integers, Bools and texts. -/
def flatB (P : Program) : Nat → List LK → List Field → Bool
  | _, [], [] => true
  | n, k :: ks, f :: r => (f.name != "_") && (f.offset == n) && k.fits (P.underlying f.type) && flatB P (n + 1) ks r
  | _, _, _ => false

def plainB : TypeDesc → Bool
  | .struct _ => false
  | .array _ _ => false
  | _ => true
/-- What is said of a type holds of it. -/
def TyOk (P : Program) (t : TypeId) : Ty → Prop
  | .int k => P.underlying t = some (.int k) ∧ InfoOk P t 1 [.i k fun _ => 0]
  | .bool => P.underlying t = some .bool ∧ InfoOk P t 1 [.bc false]
  | .str => P.underlying t = some .string ∧ InfoOk P t 1 [.s fun _ => .empty]
  | .slice e sz bytes z => P.underlying t = some (.slice e) ∧ 0 < sz ∧ sz * 1 ≤ 1000 ∧ InfoOk P e sz z ∧ (P.info? e).map (·.bytes) = some bytes ∧ InfoOk P t 1 [.nil]
  | .struct flat fs sz z => (∃ fields : Array Field, P.underlying t = some (.struct fields) ∧ fields.toList.map (fun f => (f.offset, f.type, P.cellsOf f.type)) = fs ∧
      (∀ ks, flat = some ks → P.stoodInHeld t = false ∧ P.eqGuardType P.depth t = false ∧ flatB P 0 ks fields.toList = true)) ∧ InfoOk P t sz z
  | .one => (∃ d, P.underlying t = some d ∧ plainB d = true) ∧ InfoOk P t 1 [.any]
  | .other => True

/-- What is said of an array's type holds of it. -/
def ArrOk (P : Program) (t : TypeId) (r : Arr) : Prop :=
  ∃ e, P.underlying t = some (.array r.n e) ∧ (∃ i zv, P.info? t = some i ∧ i.zero = some zv ∧ zv.cells.toList.map valAV = replN r.n r.z ∧ zv.cells.toList.all (·.oneCell') = true) ∧ InfoOk P e r.sz r.z ∧
    ∃ d, P.underlying e = some d ∧ match r.ag with | true => ∃ fs, d = .struct fs | false => plainB d = true

/-- The model's entry for math/bits.Sub64. -/
def sub64E : Array Value → Sem Value := fun args => do
  let (x, y, b) ← Extern.MathBitsCarry.three "Sub64" args
  pure (Extern.MathBitsCarry.pair ((x + Extern.MathBitsCarry.m64 - y - b) % Extern.MathBitsCarry.m64) (if x < y + b then 1 else 0))
/-- The function is the difference that the model itself makes. -/
def SubOk (P : Program) (f : FuncId) : Prop := ∃ fn, P.funcs[f]? = some fn ∧ fn.name = "math/bits.Sub64" ∧ fn.body = none ∧ Extern.findNext fn = none ∧ Extern.find fn = some sub64E
structure EnvOk (P : Program) (E : Env) : Prop where
  ty : ∀ t, TyOk P t (E.ty t)
  ar : ∀ t r, E.ar t = some r → ArrOk P t r := by intro t r h; cases h
  su : ∀ f, E.su = some f → SubOk P f := by intro f h; cases h

def Good (P : Program) (o : Oper) (a : Act) (w : World) (M : Nat → Prop) (β : Nat → Option Nat) (cp : Nat → Nat) (h : Hp) (nid : Nat) (v : AV) (c : Chg) : Prop :=
  ∃ n v' w' M' β' cp', (execOp a.eval o).run P w = .ok n w' ∧ (n = .value v' ∨ (n = .skip ∧ v' = undef)) ∧ After w M β cp h w' M' β' cp' (c.on nid h) ∧ Rep w' M' β' cp' v v'

def Res.Sound (r : Res) (Q : AV → Chg → Prop) : Prop :=
  match r with
  | .bad _ => True
  | .ok v c => Q v c
  | .ob p v c => p () → Q v c

section
variable {P : Program} {E : Env} {o : Oper} {a : Act} {w : World} {M : Nat → Prop} {β : Nat → Option Nat} {cp : Nat → Nat} {h : Hp} {s : Tm} {nid : Nat}

theorem repC_val (v : Value) : Rep w M β cp (valAV v) v := by
  cases v with
  | int k n => exact .c (.i _ _)
  | bool b => exact .c (.bc _)
  | string s => exact .c (.s _)
  | slice a n c =>
    simp only [valAV]
    split
    · exact .c .nil
    · exact .c (.any _)
  | func f x y =>
    simp only [valAV]
    split
    · rename_i h1 h2
      have e1 : x = #[] := by simpa using h1
      have e2 : y = #[] := by simpa using h2
      subst e1 e2
      exact .fn _ [] #[] rfl (fun j x hj => by simp at hj)
    · exact .c (.any _)
  | _ => exact .c (.any _)

theorem ev_rep (ht : ∀ t, Rep w M β cp (lk s t) (a.tmps.getD t undef)) (x : Operand) : Rep w M β cp (ev s x) (a.eval x) := by
  cases x with
  | tmp t => exact ht t
  | const v => exact repC_val v
  | global g => exact .c (.any _)
  | func f => exact .fn f [] #[] rfl (fun j x hj => by simp at hj)

theorem good_val (hh : HeapRel w M β cp h) {v : AV} {v' : Value} (hr : (execOp a.eval o).run P w = .ok (.value v') w) (hv : Rep w M β cp v v') : Good P o a w M β cp h nid v .no :=
  ⟨_, v', w, M, β, cp, hr, .inl rfl, After.refl hh, hv⟩

theorem run_sizeOf {t : TypeId} {sz : Nat} {z : List AV} (hi : InfoOk P t sz z) : (sizeOf t).run P w = .ok sz w := by
  obtain ⟨i, h1, h2, _⟩ := hi
  simp [sizeOf, typeInfo, h1, h2]
theorem run_zero {t : TypeId} {sz : Nat} {z : List AV} (hi : InfoOk P t sz z) : ∃ zv, (zeroValue t).run P w = .ok zv w ∧ zv.cells.toList.map valAV = z ∧ ∀ v ∈ zv.cells.toList, v.oneCell' = true := by
  obtain ⟨i, h1, h2, zv, h3, h4, h5⟩ := hi
  exact ⟨zv, by simp [zeroValue, typeInfo, h1, h3], h4, fun v hv => by have := List.all_eq_true.1 h5 v hv; simpa using this⟩
theorem cellsOf_eq {t : TypeId} {sz : Nat} {z : List AV} (hi : InfoOk P t sz z) : P.cellsOf t = sz := by
  obtain ⟨i, h1, h2, _⟩ := hi
  simp [Program.cellsOf, h1, h2]

theorem repL_zero (vs : List Value) : RepL w M β cp (vs.map valAV) vs :=
  ⟨by simp, fun j x hj => by
    rw [List.getElem?_map, Option.map_eq_some_iff] at hj
    obtain ⟨v, h1, rfl⟩ := hj
    rw [List.getD_eq_getElem?_getD, h1]
    exact repC_val v⟩

/-- The cells of a value. -/
theorem cells_rep {x : AV} {v : Value} {cs : List AV} (hr : Rep w M β cp x v) (hc : cells x = some cs) : RepL w M β cp cs v.cells.toList ∧ ∀ u ∈ v.cells.toList, u.oneCell' = true := by
  have one : ∀ {x : AV} {v : Value}, Rep w M β cp x v → v.cells = #[v] → v.oneCell' = true → RepL w M β cp [x] v.cells.toList ∧ ∀ u ∈ v.cells.toList, u.oneCell' = true := by
    intro x v hr hv h1
    rw [hv]
    refine ⟨⟨rfl, fun j y hj => ?_⟩, by simpa using h1⟩
    match j, hj with
    | 0, hj => simp at hj; subst hj; simpa using hr
  cases x with
  | any => simp [cells] at hc
  | tup l => simp [cells] at hc
  | ite c x y => simp [cells] at hc
  | agg l => obtain ⟨xs, rfl, h1, h2⟩ := rep_agg hr; simp [cells] at hc; subst hc; exact ⟨h1, h2⟩
  | bc b => simp [cells] at hc; subst hc; exact one hr (by rw [rep_bc hr]; rfl) (by rw [rep_bc hr]; rfl)
  | b b => simp [cells] at hc; subst hc; exact one hr (by rw [rep_b hr]; rfl) (by rw [rep_b hr]; rfl)
  | i k n => simp [cells] at hc; subst hc; exact one hr (by rw [rep_i hr]; rfl) (by rw [rep_i hr]; rfl)
  | s b => simp [cells] at hc; subst hc; exact one hr (by rw [rep_s hr]; rfl) (by rw [rep_s hr]; rfl)
  | nil => simp [cells] at hc; subst hc; exact one hr (by rw [rep_nil hr]; rfl) (by rw [rep_nil hr]; rfl)
  | con x =>
    simp [cells] at hc; subst hc
    have hx : v.oneCell' = true := by cases hr with | c h => cases h with | con x hx => exact hx
    exact one hr (by unfold Value.cells; split <;> simp_all [Value.oneCell']) hx
  | ptr b o => simp [cells] at hc; subst hc; obtain ⟨g, _, rfl⟩ := rep_ptr hr; exact one hr rfl rfl
  | ept b sz i o => simp [cells] at hc; subst hc; obtain ⟨g, _, rfl⟩ := rep_ept hr; exact one hr rfl rfl
  | own b n => simp [cells] at hc; subst hc; rcases rep_own hr with ⟨_, rfl⟩ | ⟨g, _, _, rfl⟩ <;> exact one hr rfl rfl
  | nn b n => simp [cells] at hc; subst hc; obtain ⟨g, _, _, rfl⟩ := rep_nn hr; exact one hr rfl rfl
  | vw b sz p n => simp [cells] at hc; subst hc; rcases rep_vw hr with ⟨_, _, _, _, rfl⟩ | ⟨g, _, _, rfl⟩ <;> exact one hr rfl rfl
  | sl sz n f => simp [cells] at hc; subst hc; obtain ⟨ad, c, rfl, _⟩ := rep_sl hr; exact one hr rfl rfl
  | rp l => simp [cells] at hc; subst hc; obtain ⟨ad, u, rfl, _⟩ := rep_rp hr; exact one hr rfl rfl
  | fn f l => simp [cells] at hc; subst hc; cases hr with | c h => cases h | fn f l cs hl h => exact one (.fn f l cs hl h) rfl rfl


theorem isAgg_one {t : TypeId} {d : TypeDesc} (hu : P.underlying t = some d) (h1 : ∀ fs, d ≠ .struct fs) (h2 : ∀ n e, d ≠ .array n e) : (isAgg t).run P w = .ok false w := by
  simp only [isAgg, Sem.run_bind, run_underlying hu, Result.andThen_ok]
  cases d <;> first | rfl | (exact absurd rfl (h1 _)) | (exact absurd rfl (h2 _ _))
theorem isAgg_struct {t : TypeId} {fs : Array Field} (hu : P.underlying t = some (.struct fs)) : (isAgg t).run P w = .ok true w := by
  simp only [isAgg, Sem.run_bind, run_underlying hu, Result.andThen_ok]; rfl

/-- What is known of a type that is no struct. -/
theorem ty_one {t : TypeId} {T : Ty} (h : TyOk P t T) (hs : ∀ fl fs sz z, T ≠ .struct fl fs sz z) (ho : T ≠ .other) : (isAgg t).run P w = .ok false w ∧ (sizeOf t).run P w = .ok 1 w := by
  cases T with
  | int k => exact ⟨isAgg_one h.1 (by simp) (by simp), run_sizeOf h.2⟩
  | bool => exact ⟨isAgg_one h.1 (by simp) (by simp), run_sizeOf h.2⟩
  | str => exact ⟨isAgg_one h.1 (by simp) (by simp), run_sizeOf h.2⟩
  | slice e sz b z => exact ⟨isAgg_one h.1 (by simp) (by simp), run_sizeOf h.2.2.2.2.2⟩
  | struct fl fs sz z => exact absurd rfl (hs _ _ _ _)
  | one =>
    obtain ⟨⟨d, h1, h2⟩, h3⟩ := h
    exact ⟨isAgg_one h1 (by rintro fs rfl; cases h2) (by rintro n e rfl; cases h2), run_sizeOf h3⟩
  | other => exact absurd rfl ho

/-- A load, and what it comes to. -/
def LoadOk (P : Program) (w : World) (M : Nat → Prop) (β : Nat → Option Nat) (cp : Nat → Nat) (t : TypeId) (ad : Addr) (v : AV) (c : Chg) : Prop :=
  c = Chg.no ∧ ∃ v', (loadVar t ad).run P w = Result.ok v' w ∧ Rep w M β cp v v'

/-- A load, off cells that are known. -/
theorem load_cells {T : Ty} {t : TypeId} (hT : TyOk P t T) {p : Option (Th Prop)} {cs : List AV} {ad : Addr} {u : Nat → Value}
    (hq : (∀ q, p = some q → q ()) → (∀ j, j < cs.length → w.cell? (ad.add j) = some (u j)) ∧ (∀ j, j < cs.length → (u j).oneCell' = true) ∧ ∀ (j : Nat) (x : AV), cs[j]? = some x → Rep w M β cp x (u j)) :
    (loadCs T p cs).Sound (LoadOk P w M β cp t ad) := by
  have fin : ∀ (v : AV), ((∀ q, p = some q → q ()) → ∃ v', (loadVar t ad).run P w = .ok v' w ∧ Rep w M β cp v v') → (match p with | none => Res.ok v .no | some q => Res.ob q v .no).Sound (LoadOk P w M β cp t ad) := by
    intro v hv
    cases p with
    | none => exact ⟨rfl, hv (by simp)⟩
    | some q => exact fun hq => ⟨rfl, hv (by rintro _ h; cases h; exact hq)⟩
  unfold loadCs
  dsimp only
  split
  · rename_i fl fs sz z
    split
    · rename_i hle
      rw [len_eq] at hle
      have hle := ble_iff.1 hle
      refine fin _ fun hp => ?_
      obtain ⟨hc, h1, hr⟩ := hq hp
      obtain ⟨⟨fields, hu, _⟩, hi⟩ := hT
      refine ⟨.agg ((List.range sz).map u).toArray, ?_, ?_⟩
      · simp only [loadVar, Sem.run_bind, isAgg_struct hu, Result.andThen_ok, if_true, run_sizeOf hi]
        rw [run_loadCells w ad sz u (fun j hj => hc j (by omega))]
        rfl
      · rw [takeN_eq]
        refine .agg _ _ (by simp; omega) (fun v hv => ?_) (fun j x hj => ?_)
        · simp at hv
          obtain ⟨j, hj, rfl⟩ := hv
          exact h1 j (by omega)
        · rw [List.getElem?_take] at hj
          split at hj
          · rename_i hlt
            have := hr j x hj
            simpa [Array.getD_eq_getD_getElem?, hlt] using this
          · cases hj
    · trivial
  · trivial
  · rename_i hs ho'
    split
    · rename_i x r
      refine fin _ fun hp => ?_
      obtain ⟨hc, h1, hr⟩ := hq hp
      have h2 := ty_one (w := w) hT (by rintro fl fs sz z rfl; exact hs _ _ _ _ rfl) (by rintro rfl; exact ho' rfl)
      have h3 := hc 0 (by simp)
      have h4 : ad.add 0 = ad := by simp [Addr.add]
      rw [h4] at h3
      refine ⟨u 0, ?_, hr 0 x rfl⟩
      simp [loadVar, h2.1, run_load, h3]
    · trivial

end
end Go.Abs
