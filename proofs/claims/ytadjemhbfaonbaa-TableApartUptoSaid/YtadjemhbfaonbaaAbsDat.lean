/- Data that lie in cells: what abstract values stand for as Lean's own data; loops by what they change; calls walked in place. -/
import Derived.Test.YtadjemhbfaonbaaAbsUse
set_option linter.all false
namespace Go.Abs
open Go

/-- A list by its places. -/
def lst {α : Type} (n : Nat) (f : Nat → α) : List α := (List.range n).map f
theorem lst_len {α : Type} (n : Nat) (f : Nat → α) : (lst n f).length = n := by simp [lst]
theorem lst_get {α : Type} {n : Nat} {f : Nat → α} {d : α} {i : Nat} (h : i < n) : (lst n f).getD i d = f i := by simp [lst, h]
theorem lst_getD {α : Type} (l : List α) (d : α) : lst l.length (fun i => l.getD i d) = l := by
  apply List.ext_getElem (by simp [lst])
  intro i h1 h2
  simp [lst, h2]
theorem lst_congr {α : Type} {n : Nat} {f g : Nat → α} (h : ∀ i, i < n → f i = g i) : lst n f = lst n g := by
  unfold lst
  exact List.map_congr_left fun i hi => h i (by simpa using hi)
theorem lst_eq {α : Type} {n : Nat} {f : Nat → α} {l : List α} {d : α} (hn : n = l.length) (h : ∀ i, i < n → f i = l.getD i d) : lst n f = l := by
  subst hn
  exact (lst_congr h).trans (lst_getD l d)
theorem lst_drop {α : Type} (l : List α) (d : α) (k n : Nat) (h : k + n ≤ l.length) : lst n (fun i => l.getD (i + k) d) = (l.drop k).take n := by
  refine lst_eq (d := d) (by simp; omega) fun i hi => ?_
  simp [List.getElem?_take, hi, Nat.add_comm]
theorem lst_take {α : Type} (l : List α) (d : α) (n : Nat) (h : n ≤ l.length) : lst n (fun i => l.getD i d) = l.take n := by
  refine lst_eq (d := d) (by simp; omega) fun i hi => ?_
  simp [List.getElem?_take, hi]
theorem gd_snoc {α : Type} (l : List α) (x d : α) (i : Nat) (h : i < l.length + 1) : (l ++ [x]).getD i d = bif decide (i < l.length) then l.getD i d else x := by
  by_cases h1 : i < l.length
  · simp [h1, List.getElem?_append_left]
  · have : i = l.length := by omega
    subst this; simp
theorem gd_app {α : Type} (l m : List α) (d : α) (i : Nat) : (l ++ m).getD i d = bif decide (i < l.length) then l.getD i d else m.getD (i - l.length) d := by
  by_cases h1 : i < l.length
  · simp [h1, List.getElem?_append_left]
  · rw [List.getD_eq_getElem?_getD, List.getD_eq_getElem?_getD, List.getElem?_append_right (by omega)]; simp [h1]
theorem lst_app {α : Type} (l m : List α) (d : α) (n : Nat) (h : n = l.length + m.length) : lst n (fun i => bif decide (i < l.length) then l.getD i d else m.getD (i - l.length) d) = l ++ m :=
  lst_eq (d := d) (by simp [h]) fun i _ => (gd_app l m d i).symm
theorem lst_snoc {α : Type} (l : List α) (x d : α) (n : Nat) (h : n = l.length + 1) : lst n (fun i => bif decide (i < l.length) then l.getD i d else x) = l ++ [x] :=
  lst_eq (d := d) (by simp [h]) fun i hi => (gd_snoc l x d i (by omega)).symm
theorem lst_set {α : Type} (l : List α) (x d : α) (k : Nat) : lst l.length (fun i => bif decide (i = k) then x else l.getD i d) = l.set k x := by
  refine lst_eq (d := d) (by simp) fun i hi => ?_
  by_cases h1 : i = k
  · subst h1; simp [hi]
  · have : k ≠ i := fun h => h1 h.symm
    simp [h1, List.getElem?_set_ne this]
theorem lst_nil {α : Type} (f : Nat → α) : lst 0 f = [] := rfl

theorem gd_set {α : Type} (l : List α) (x d : α) (i k : Nat) (h : i < l.length) : (l.set k x).getD i d = bif decide (i = k) then x else l.getD i d := by
  by_cases h1 : i = k
  · subst h1; simp [h]
  · have : k ≠ i := fun h => h1 h.symm
    simp [h1, List.getElem?_set_ne this]
theorem gd_take {α : Type} (l : List α) (d : α) (i k : Nat) (h : i < k) : (l.take k).getD i d = l.getD i d := by simp [List.getElem?_take, h]
theorem gd_drop {α : Type} (l : List α) (d : α) (i k : Nat) : (l.drop k).getD i d = l.getD (k + i) d := by simp
theorem drop_cons {α : Type} {l : List α} {k : Nat} (d : α) (h : k < l.length) : l.drop k = l.getD k d :: l.drop (k + 1) := by
  rw [List.drop_eq_getElem_cons h]; simp [h]
theorem drop_nil {α : Type} {l : List α} {k : Nat} (h : ¬ k < l.length) : l.drop k = [] := List.drop_eq_nil_of_le (by omega)
theorem take_snoc {α : Type} {l : List α} {k : Nat} (d : α) (h : k < l.length) : l.take (k + 1) = l.take k ++ [l.getD k d] := by
  rw [List.take_succ_eq_append_getElem h]; simp [h]
theorem bif_same {α : Type} (c : Bool) (x : α) : (bif c then x else x) = x := by cases c <;> rfl
theorem bif_app {α β : Type} (f : α → β) (c : Bool) (x y : α) : (bif c then f x else f y) = f (bif c then x else y) := by cases c <;> rfl

theorem ba_loop (b : ByteArray) : ∀ (n i : Nat) (r : List UInt8), b.size - i = n → ByteArray.toList.loop b i r = r.reverse ++ b.data.toList.drop i
  | 0, i, r, h => by
    rw [ByteArray.toList.loop, if_neg (by omega), List.drop_eq_nil_of_le (by show b.data.size ≤ i; have : b.size = b.data.size := rfl; omega)]
    simp
  | n + 1, i, r, h => by
    have hi : i < b.size := by omega
    have hi2 : i < b.data.toList.length := hi
    rw [ByteArray.toList.loop, if_pos hi, ba_loop b n (i + 1) _ (by omega), List.drop_eq_getElem_cons hi2]
    have : b.get! i = b.data.toList[i] := by
      show b.data[i]! = _
      rw [getElem!_pos b.data i hi]; rfl
    rw [this]; simp
theorem ba_toList (b : ByteArray) : b.toList = b.data.toList := by
  have := ba_loop b (b.size - 0) 0 [] rfl
  simpa [ByteArray.toList] using this
/-- Texts are the same if their bytes are. -/
theorem ba_inj {a b : ByteArray} : a.toList = b.toList ↔ a = b := by
  rw [ba_toList, ba_toList]
  constructor
  · intro h; cases a; cases b; simp at h; subst h; rfl
  · rintro rfl; rfl
theorem ba_beq {a b : ByteArray} : (a.toList == b.toList) = decide (a = b) := by
  rw [Bool.eq_iff_iff, beq_iff_eq, decide_eq_true_eq, ba_inj]
/-- What lies in one cell. -/
class Leaf (α : Type) where
  av : Th α → AV
  val : AV → α
  ok : AV → Prop
  hclosed : ∀ x, closed (av x) = true
  hval : ∀ x, val (av x) = x ()
  hok : ∀ x, ok (av x)
  hle : ∀ a, ok a → le 0 a (av fun _ => val a)
  hpick : ∀ c a b, ok a → ok b → ok (AV.pick c a b) ∧ val (AV.pick c a b) = bif c () then val a else val b

instance leafI : Leaf Int where
  av x := .i .i64 x
  val a := match a with | .i _ n => n () | _ => 0
  ok a := match a with | .i .i64 _ => True | _ => False
  hclosed _ := rfl
  hval _ := rfl
  hok _ := trivial
  hle a h := by
    split at h
    · exact .mk (.mk rfl) (.mk rfl)
    · cases h
  hpick c a b h1 h2 := by
    split at h1
    · split at h2
      · exact ⟨trivial, rfl⟩
      · cases h2
    · cases h1

instance leafB : Leaf Bool where
  av x := .b x
  val a := match a with | .b n => n () | .bc b => b | _ => false
  ok a := match a with | .b _ => True | .bc _ => True | _ => False
  hclosed _ := rfl
  hval _ := rfl
  hok _ := trivial
  hle a h := by
    split at h
    · exact .mk rfl
    · exact .mk rfl
    · cases h
  hpick c a b h1 h2 := by
    split at h1
    · split at h2
      · exact ⟨trivial, rfl⟩
      · exact ⟨trivial, rfl⟩
      · cases h2
    · split at h2
      · exact ⟨trivial, rfl⟩
      · exact ⟨trivial, rfl⟩
      · cases h2
    · cases h1

instance leafS : Leaf ByteArray where
  av x := .s x
  val a := match a with | .s n => n () | _ => .empty
  ok a := match a with | .s _ => True | _ => False
  hclosed _ := rfl
  hval _ := rfl
  hok _ := trivial
  hle a h := by
    split at h
    · exact .mk rfl
    · cases h
  hpick c a b h1 h2 := by
    split at h1
    · split at h2
      · exact ⟨trivial, rfl⟩
      · cases h2
    · cases h1

/-- What lies in some cells in a row. -/
class Dat (α : Type) where
  d0 : α
  sz : Nat
  enc : Th α → List AV
  dec : List AV → α
  ok : List AV → Prop
  hlen : ∀ x, (enc x).length = sz
  hclosed : ∀ x, closedL (enc x) = true
  hdec : ∀ x, dec (enc x) = x ()
  hok : ∀ x, ok (enc x)
  hle : ∀ l, ok l → leL 0 l (enc fun _ => dec l)
  hpick : ∀ c l m, ok l → ok m → ok (rowL sz c l m) ∧ dec (rowL sz c l m) = bif c () then dec l else dec m

@[reducible] def Dat.ofLeaf (α : Type) [Leaf α] (d : α) : Dat α where
  d0 := d
  sz := 1
  enc x := [Leaf.av x]
  dec l := match l with | [a] => Leaf.val a | _ => d
  ok l := match l with | [a] => Leaf.ok α a | _ => False
  hlen _ := rfl
  hclosed x := by simp [closedL, Leaf.hclosed]
  hdec x := Leaf.hval x
  hok x := Leaf.hok x
  hle l h := by
    split at h
    · exact .mk (Leaf.hle _ h) trivial
    · cases h
  hpick c l m h1 h2 := by
    split at h1
    · split at h2
      · exact Leaf.hpick c _ _ h1 h2
      · cases h2
    · cases h1

instance datI : Dat Int := Dat.ofLeaf Int 0
instance datB : Dat Bool := Dat.ofLeaf Bool false
instance datS : Dat ByteArray := Dat.ofLeaf ByteArray .empty

/-- A slice that is only read. -/
def slV {α : Type} [Dat α] : AV → List α
  | .sl _ n f => lst (n ()) fun i => Dat.dec (f fun _ => i)
  | .ite c x y => bif c () then slV x else slV y
  | _ => []
def slOk {α : Type} [Dat α] : AV → Prop
  | .sl sz n f => sz = Dat.sz α ∧ ∀ i, i < n () → Dat.ok α (f fun _ => i)
  | .nil => True
  | .ite c x y => (c () = true → slOk (α := α) x) ∧ (c () = false → slOk (α := α) y)
  | _ => False
theorem slA_closed {α : Type} [Dat α] (l : Th (List α)) : closed (.sl (Dat.sz α) (fun _ => (l ()).length) fun i => Dat.enc fun _ => (l ()).getD (i ()) Dat.d0) = true := rfl
theorem sl_le {α : Type} [Dat α] : ∀ (a : AV), slOk (α := α) a → le 0 a (.sl (Dat.sz α) (fun _ => (slV (α := α) a).length) fun i => Dat.enc fun _ => (slV (α := α) a).getD (i ()) Dat.d0)
  | .sl sz n f, h => by
    obtain ⟨rfl, h⟩ := h
    simp only [le]
    have e : Nat.beq (Dat.sz α) (Dat.sz α) = true := beq_iff.2 rfl
    rw [e]
    refine .mk (.mk (by simp [slV, lst_len])) (.mk fun i hi => .mk ?_ (Dat.hclosed _))
    have := Dat.hle _ (h i hi)
    rw [slV]
    have e2 : (fun _ : Unit => (lst (n ()) fun i => (Dat.dec (f fun _ => i) : α)).getD i Dat.d0) = fun _ => Dat.dec (f fun _ => i) := funext fun _ => lst_get hi
    show leL 0 _ (Dat.enc fun _ => (lst (n ()) fun i => (Dat.dec (f fun _ => i) : α)).getD i Dat.d0)
    rw [e2]
    exact this
  | .nil, _ => .mk rfl
  | .ite c x y, h => by
    simp only [le]
    refine .mk (.mk fun hc => ?_) (.mk fun hc => ?_)
    · have := sl_le x (h.1 hc)
      rw [slV]
      have e : (bif c () then slV (α := α) x else slV y) = slV x := by rw [hc]; rfl
      simp only [e]
      exact this
    · have := sl_le y (h.2 hc)
      rw [slV]
      have e : (bif c () then slV (α := α) x else slV y) = slV y := by rw [hc]; rfl
      simp only [e]
      exact this
  | .any, h => h.elim
  | .bc _, h => h.elim
  | .b _, h => h.elim
  | .i _ _, h => h.elim
  | .s _, h => h.elim
  | .con _, h => h.elim
  | .agg _, h => h.elim
  | .tup _, h => h.elim
  | .ptr _ _, h => h.elim
  | .ept _ _ _ _, h => h.elim
  | .own _ _, h => h.elim
  | .vw _ _ _ _, h => h.elim
  | .nn _ _, h => h.elim
  | .rp _, h => h.elim
  | .fn _ _, h => h.elim

theorem pick_ite {c : Th Bool} {a b : AV} {α : Type} [Dat α] (h1 : slOk (α := α) a) (h2 : slOk (α := α) b) : AV.pick c a b = .ite c a b := by
  cases a <;> first | exact h1.elim | (cases b <;> first | exact h2.elim | rfl)

instance leafL {α : Type} [Dat α] : Leaf (List α) where
  av l := .sl (Dat.sz α) (fun _ => (l ()).length) fun i => Dat.enc fun _ => (l ()).getD (i ()) Dat.d0
  val a := slV a
  ok a := slOk (α := α) a
  hclosed _ := rfl
  hval l := by
    simp only [slV]
    have : (fun i => (Dat.dec (Dat.enc fun _ => (l ()).getD i Dat.d0) : α)) = fun i => (l ()).getD i Dat.d0 := funext fun i => Dat.hdec _
    rw [this]
    exact lst_getD _ _
  hok l := ⟨rfl, fun i _ => Dat.hok _⟩
  hle a h := sl_le a h
  hpick c a b h1 h2 := by
    rw [pick_ite (α := α) h1 h2]
    exact ⟨⟨fun _ => h1, fun _ => h2⟩, by rw [slV]⟩
instance datL {α : Type} [Dat α] : Dat (List α) := Dat.ofLeaf (List α) []

/-- An object that holds a list. -/
abbrev vecO {α : Type} [Dat α] (e : TypeId) (l : Th (List α)) : AObj := .vec e (Dat.sz α) (fun _ => (l ()).length) fun i => Dat.enc fun _ => (l ()).getD (i ()) Dat.d0
/-- A slice over it. -/
abbrev ownA {α : Type} (b : Nat) (l : Th (List α)) : AV := .own b fun _ => (l ()).length

/- LOOPS, by what they change. -/
def unmod (ms : List Nat) : Tm → Tm
  | [] => []
  | (i, v) :: r => match memN i ms with
    | true => unmod ms r
    | false => (i, v) :: unmod ms r
def setHs : List (Nat × AObj) → Hp → Hp
  | [], h => h
  | (b, o) :: r, h => setHs r (hput h b o)

theorem LoopVC.frame {nh : Nat} {body : Tm → Hp → List Nat → KEx → Prop} {s : Tm} {h : Hp} {kl : List Nat} {K : KEx} (ms : List Nat) (X : Type) (ov : X → Tm) (oh : X → List (Nat × AObj)) (kL : List Nat) (μ : X → Nat) (x0 : X)
    (hk : subN kl kL = true) (h0 : ∀ x, Nat.ble nh (len (setHs (oh x) h)) = true) (h1 : leT s (ov x0 ++ unmod ms s) (setHs (oh x0) h)) (h2 : leH h (setHs (oh x0) h))
    (h3 : ∀ x, body (ov x ++ unmod ms s) (setHs (oh x) h) kL fun e s' h' kl' => match e with
      | .nrm => ∃ y, leT s' (ov y ++ unmod ms s) (setHs (oh y) h) ∧ leH h' (setHs (oh y) h) ∧ subN kl' kL = true ∧ μ y < μ x
      | e => K e s' h' kl') : LoopVC nh body s h kl K :=
  .mk X (fun x => ov x ++ unmod ms s) (fun x => setHs (oh x) h) kL μ x0 hk h0 h1 h2 h3

theorem LoopVC.frameR {body : Tm → Hp → List Nat → KEx → Prop} {s : Tm} {h : Hp} {kl : List Nat} {K : KEx} (ms : List Nat) (X : Type) (ov : X → Tm) (oh : X → List (Nat × AObj)) (μ : X → Nat) (x0 : X)
    (h1 : leT s (ov x0 ++ unmod ms s) (setHs (oh x0) h)) (h2 : leH h (setHs (oh x0) h))
    (h3 : ∀ x, body (ov x ++ unmod ms s) (setHs (oh x) h) [] fun e s' h' kl' => match e with
      | .nrm => ∃ y as, okAs as = true ∧ below' (len (setHs (oh y) h)) as = true ∧ leT (renT as s') (ov y ++ unmod ms s) (setHs (oh y) h) ∧ leH (selH as h' 0 (setHs (oh y) h)) (setHs (oh y) h) ∧ μ y < μ x
      | e => K e s' h' kl') : LoopVC 0 body s h kl K :=
  .mkR rfl X (fun x => ov x ++ unmod ms s) (fun x => setHs (oh x) h) μ x0 h1 h2 h3

/- CALLS WALKED IN PLACE. -/
def inlCon (E : Env) (con : FuncId → Con) (drw : Drw) (keep : List Nat) (f : Func) : Con := fun A H K => match f.body with
  | some c => fnVC E con drw f.ntmps keep f.results.toList c A H K
  | none => Bad 400
theorem inl_ok {P : Program} {E : Env} {con : FuncId → Con} {drw : Drw} {keep : List Nat} {f : FuncId} {fn : Func} {A : List AV} {H : Hp} {K : Kont} (hE : EnvOk P E) (hZ : Zl E) (hC : ConOk P con) (hD : DrwOk P drw) (hf : P.funcs[f]? = some fn)
    (hv : inlCon E con drw keep fn A H K) : FnOk P f A H K := by
  unfold inlCon at hv
  split at hv
  · rename_i c hc
    exact fn_ok hE hZ hC hD hf hc hv
  · cases hv

end Go.Abs
