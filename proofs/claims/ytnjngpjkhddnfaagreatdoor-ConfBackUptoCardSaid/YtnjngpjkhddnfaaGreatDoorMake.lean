/- table.Make, walked. -/
import Derived.Test.YtnjngpjkhddnfaaGreatDoorSortW
set_option linter.all false
namespace Go.Proofs.YtnjngpjkhddnfaaGreatDoor
open Go Go.Abs

def wantB (size : Int) (w : Want) : Bool := ownB w.owner && decide (1 ≤ w.every ∧ w.every ≤ size ∧ size.tmod w.every = 0 ∧ 1 ≤ w.long ∧ w.long ≤ w.every ∧ 0 ≤ w.frm ∧ w.frm ≤ w.every - w.long)
theorem wantB_iff {size : Int} {w : Want} : wantB size w = true ↔ ownB w.owner = true ∧ 1 ≤ w.every ∧ w.every ≤ size ∧ size.tmod w.every = 0 ∧ 1 ≤ w.long ∧ w.long ≤ w.every ∧ 0 ≤ w.frm ∧ w.frm ≤ w.every - w.long := by simp [wantB]
theorem wantB_no {size : Int} {w : Want} : ¬ (ownB w.owner = true ∧ 1 ≤ w.every ∧ w.every ≤ size ∧ size.tmod w.every = 0 ∧ 1 ≤ w.long ∧ w.long ≤ w.every ∧ 0 ≤ w.frm ∧ w.frm ≤ w.every - w.long) → wantB size w = false := fun h => by
  cases hb : wantB size w with
  | false => rfl
  | true => exact absurd (wantB_iff.1 hb) h
def wanted_R (r : Th (Bool)) : AV := .b fun _ => (r ())
def wanted_P (size : Int) (w : Want) : Prop := 1 ≤ size ∧ size ≤ 1000000
def wanted_D : Det := fun A => match A with
  | [.i .i64 size, .agg w] => some (fun _ => Dat.ok Want w ∧ wanted_P (size ()) (Dat.dec w), wanted_R fun _ => wantB (size ()) (Dat.dec w))
  | _ => none
noncomputable def cWn : FuncId → Con := fun f => match f with
  | 43 => pureCon (detPC wown_D)
  | _ => fun _ _ _ => Bad 1001
theorem cWn_ok : ConOk Tryz.prog cWn := fun f A H K h => by
  unfold cWn at h
  split at h
  · exact ⟨⟨Tryz.f43, Tryz.func43, by kernel_rfl, by kernel_rfl⟩, pureCon_ok wown_ok h⟩
  · cases h
set_option maxRecDepth 100000 in
set_option maxHeartbeats 4000000 in
theorem wanted_vc (size : Int) (w : Want) (hp : wanted_P size w) : FnOk Tryz.prog 38 [.i .i64 fun _ => size, .agg (Dat.enc fun _ => w)] [] (outA (wanted_R fun _ => wantB size w) []) := by
  refine fn_ok envOk zl cWn_ok noDraws_ok (keep := [0, 1, 3, 4]) Tryz.func38 rfl ?_
  obtain ⟨p1, p2⟩ : 1 ≤ size ∧ size ≤ 1000000 := hp
  have fin : ∀ (b : PUnit → Bool) H kl, wantB size w = b () → outA (wanted_R fun _ => wantB size w) [] (.b b) H kl := fun b H kl h => by
    rw [h]
    cbv
    repeat' first | (refine Stp.mk ?_; cbv) | (refine Gen.mk fun r hr => ?_; (try simp only [Dat.ok, Dat.dec, Leaf.ok, Leaf.val, Z0, Z1, Z2, Z3, Z4, Z5, Z6, Z7, val_sl, val_nil] at hr); cbv) | exact trivial | rfl | refine Both.mk ?_ ?_ | (refine Imp.mk fun h => ?_; (try dsimp only at h); (try simp only [nc, Int.toNat_natCast, ne_eq, zz] at h); (try simp only [nc] at h)) | refine Ob.mk ?_ ?_ | refine Chk.mk (by kernel_rfl) ?_ | refine Eq'.mk ?_ | (refine AllN.mk fun i hi => ?_; cbv) | (refine AllC.mk fun c hc hcm => ?_; (try dsimp only at hc); cbv) | (refine AllS.mk fun r hr => ?_; (try simp only [Dat.ok, Dat.dec, Leaf.ok, Leaf.val, Z0, Z1, Z2, Z3, Z4, Z5, Z6, Z7, val_sl] at hr); cbv)
  have finc : ∀ (b : Bool) H kl, wantB size w = b → outA (wanted_R fun _ => wantB size w) [] (.bc b) H kl := fun b H kl h => by
    rw [h]
    cbv
    repeat' first | (refine Stp.mk ?_; cbv) | (refine Gen.mk fun r hr => ?_; (try simp only [Dat.ok, Dat.dec, Leaf.ok, Leaf.val, Z0, Z1, Z2, Z3, Z4, Z5, Z6, Z7, val_sl, val_nil] at hr); cbv) | exact trivial | rfl | refine Both.mk ?_ ?_ | (refine Imp.mk fun h => ?_; (try dsimp only at h); (try simp only [nc, Int.toNat_natCast, ne_eq, zz] at h); (try simp only [nc] at h)) | refine Ob.mk ?_ ?_ | refine Chk.mk (by kernel_rfl) ?_ | refine Eq'.mk ?_ | (refine AllN.mk fun i hi => ?_; cbv) | (refine AllC.mk fun c hc hcm => ?_; (try dsimp only at hc); cbv) | (refine AllS.mk fun r hr => ?_; (try simp only [Dat.ok, Dat.dec, Leaf.ok, Leaf.val, Z0, Z1, Z2, Z3, Z4, Z5, Z6, Z7, val_sl] at hr); cbv)
  generalize outA (wanted_R fun _ => wantB size w) [] = K at fin finc ⊢
  cbv
  repeat' first | (show Stp _; exfalso; first | omega | (exact h ‹_›) | (exact absurd ‹_› h) | (exact Bool.false_ne_true (h.symm.trans (show _ = true by assumption)))) | (refine Stp.mk ?_; cbv) | (refine Gen.mk fun r hr => ?_; (try simp only [Dat.ok, Dat.dec, Leaf.ok, Leaf.val, Z0, Z1, Z2, Z3, Z4, Z5, Z6, Z7, val_sl, val_nil] at hr); cbv) | exact trivial | rfl | refine Both.mk ?_ ?_ | (refine Imp.mk fun h => ?_; (try dsimp only at h); (try simp only [nc, Int.toNat_natCast, ne_eq, zz] at h); (try simp only [nc] at h)) | refine Ob.mk ?_ ?_ | refine Chk.mk (by kernel_rfl) ?_ | refine Eq'.mk ?_ | (refine AllN.mk fun i hi => ?_; cbv) | (refine AllC.mk fun c hc hcm => ?_; (try dsimp only at hc); cbv) | (refine AllS.mk fun r hr => ?_; (try simp only [Dat.ok, Dat.dec, Leaf.ok, Leaf.val, Z0, Z1, Z2, Z3, Z4, Z5, Z6, Z7, val_sl] at hr); cbv)
  all_goals ((try dsimp only at *); (try simp only [nc, Int.toNat_natCast, ne_eq, zz] at *); (try simp only [nc] at *))
  all_goals first
    | omega
    | (unfold InR; omega)
    | (refine finc _ _ _ (wantB_no ?_); rintro ⟨q1, q2⟩; first | omega | (exfalso; simp_all; done))
    | (refine fin _ _ _ ?_
       by_cases hh : w.frm ≤ w.every - w.long
       · rw [decide_eq_true hh]; exact wantB_iff.2 ⟨by assumption, by omega, by omega, by omega, by omega, by omega, by omega, hh⟩
       · rw [decide_eq_false hh]; exact wantB_no fun q => by omega)
    | fail
theorem wanted_ok : PcOk Tryz.prog 38 (detPC wanted_D) := det_okA fun A p r h hp0 => by
  unfold wanted_D at h
  split at h
  · rename_i size w
    cases h
    obtain ⟨g0, hp⟩ := hp0
    exact ⟨rfl, FnOk.pre (A' := [.i .i64 fun _ => size (), .agg (Dat.enc fun _ => (Dat.dec w : Want))]) (wanted_vc (size ()) (Dat.dec w) hp) (.mk (.mk (.mk rfl) (.mk rfl)) (.mk (Dat.hle _ g0) (trivial)))⟩
  · cases h
def genF (size : Int) (w : Want) : Nat → Int → List Window
  | 0, _ => []
  | f + 1, k => if k < size then ⟨k + w.frm, w.long, w.owner⟩ :: genF size w f (k + w.every) else []
def genN (size : Int) (w : Want) (k : Int) : List Window := genF size w (size - k).toNat k
theorem genF_fuel {size : Int} {w : Want} (he : 1 ≤ w.every) : ∀ {f g : Nat} {k : Int}, (size - k).toNat ≤ f → (size - k).toNat ≤ g → genF size w f k = genF size w g k
  | 0, 0, _, _, _ => rfl
  | 0, g + 1, k, h, _ => by rw [genF, genF, if_neg (by omega)]
  | f + 1, 0, k, _, h => by rw [genF, genF, if_neg (by omega)]
  | f + 1, g + 1, k, h1, h2 => by
    rw [genF, genF]
    split
    · rw [genF_fuel he (show (size - (k + w.every)).toNat ≤ f by omega) (show (size - (k + w.every)).toNat ≤ g by omega)]
    · rfl
theorem genN_lt {size k : Int} {w : Want} (he : 1 ≤ w.every) (h : k < size) : genN size w k = ⟨k + w.frm, w.long, w.owner⟩ :: genN size w (k + w.every) := by
  obtain ⟨f, hf⟩ : ∃ f, (size - k).toNat = f + 1 := ⟨(size - k).toNat - 1, by omega⟩
  unfold genN
  rw [hf, genF, if_pos h, genF_fuel he (show (size - (k + w.every)).toNat ≤ f by omega) (Nat.le_refl _)]
theorem genN_ge {size k : Int} {w : Want} (h : ¬ k < size) : genN size w k = [] := by
  unfold genN
  rw [show (size - k).toNat = 0 by omega, genF]
def genL (size : Int) : List Want → List Window
  | [] => []
  | w :: r => genN size w 0 ++ genL size r
def sumQ (size : Int) : List Want → Int
  | [] => 0
  | w :: r => size.tdiv w.every + sumQ size r
theorem genL_drop {size : Int} {l : List Want} {k : Nat} (hk : k < l.length) : genL size (l.drop k) = genN size (l.getD k Dat.d0) 0 ++ genL size (l.drop (k + 1)) := by
  rw [drop_cons Dat.d0 hk, genL]
theorem sumQ_drop {size : Int} {l : List Want} {k : Nat} (hk : k < l.length) : sumQ size (l.drop k) = size.tdiv (l.getD k Dat.d0).every + sumQ size (l.drop (k + 1)) := by
  rw [drop_cons Dat.d0 hk, sumQ]
def sortWl (d : List Window) : List Window := d.mergeSort fun x y => decide (x.frm ≤ y.frm)
def makeV (size : Int) (l : List Want) : Table × Int :=
  if ¬ sizeB size = true then (⟨0, []⟩, 1) else if 200 < l.length then (⟨0, []⟩, 2) else if ¬ l.all (wantB size) = true then (⟨0, []⟩, 4)
  else if 200 < sumQ size l then (⟨0, []⟩, 2) else if wchkV ⟨size, sortWl (genL size l)⟩ = 0 then (⟨size, sortWl (genL size l)⟩, 0) else (⟨0, []⟩, 8)
structure MkX (size : Int) (l : List Want) where
  k : Nat
  s : Int
  hk : k ≤ l.length
  ha : (l.take k).all (wantB size) = true
  s0 : 0 ≤ s
  s1 : s ≤ k * 1000000
  he : sumQ size l = s + sumQ size (l.drop k)
theorem wk_get {size : Int} {l : List Want} {k : Nat} (hk : k < l.length) (h : l.all (wantB size) = true) : wantB size (l.getD k Dat.d0) = true := by
  rw [List.getD_eq_getElem?_getD, List.getElem?_eq_getElem hk]
  exact List.all_eq_true.1 h _ (List.getElem_mem hk)
theorem wk_take {size : Int} {l : List Want} {k : Nat} (hk : k < l.length) (h : (l.take k).all (wantB size) = true) (h2 : wantB size (l.getD k Dat.d0) = true) : (l.take (k + 1)).all (wantB size) = true := by
  rw [List.take_add_one, List.getElem?_eq_getElem hk, List.all_append, h]
  rw [List.getD_eq_getElem?_getD, List.getElem?_eq_getElem hk] at h2
  simpa using h2
theorem quoW {size : Int} {w : Want} (h1 : 1 ≤ size) (h2 : size ≤ 1000000) (h : wantB size w = true) : 0 ≤ size.tdiv w.every ∧ size.tdiv w.every ≤ 1000000 := by
  have q := wantB_iff.1 h
  rw [Int.tdiv_eq_ediv_of_nonneg (by omega)]
  have a := Int.ediv_nonneg (show 0 ≤ size by omega) (show 0 ≤ w.every by omega)
  have b := Int.ediv_le_self w.every (show 0 ≤ size by omega)
  omega
structure MwX (size : Int) (l : List Want) where
  k : Nat
  out : List Window
  hk : k ≤ l.length
  hl : out.length ≤ k * 1000000
  he : genL size l = out ++ genL size (l.drop k)
structure MvX (size : Int) (l : List Want) (k : Nat) where
  n : Int
  out : List Window
  n0 : 0 ≤ n
  n1 : n ≤ 2000000
  hl : out.length ≤ k * 1000000 + n.toNat
  hl2 : out.length ≤ (k + 1) * 1000000
  he : genL size l = out ++ (genN size (l.getD k Dat.d0) n ++ genL size (l.drop (k + 1)))
theorem okW_ge {f : Int} : ∀ {l : List Window} {e : Int}, okW f e l = true → ∀ x ∈ l, e ≤ x.frm
  | [], _, _ => by simp
  | w :: r, e, h => by
    rw [okW, Bool.and_eq_true] at h
    have hw := winB_iff.1 h.1
    intro x hx
    rcases List.mem_cons.1 hx with rfl | hx
    · omega
    · have := okW_ge h.2 x hx; omega
theorem okW_strict {f : Int} : ∀ {l : List Window} {e : Int}, okW f e l = true → l.Pairwise fun a b => a.frm < b.frm
  | [], _, _ => List.Pairwise.nil
  | w :: r, e, h => by
    rw [okW, Bool.and_eq_true] at h
    have hw := winB_iff.1 h.1
    exact List.pairwise_cons.2 ⟨fun x hx => by have := okW_ge h.2 x hx; omega, okW_strict h.2⟩
theorem uniqW {a b : List Window} (hp : a.Perm b) (ha : a.Pairwise fun x y => x.frm < y.frm) (hb : b.Pairwise fun x y => decide (x.frm ≤ y.frm) = true) : a = b := by
  refine hp.eq_of_pairwise (le := fun x y => decide (x.frm ≤ y.frm) = true) (fun x y hx hy h1 h2 => ?_) (ha.imp fun h => by simp only [decide_eq_true_eq]; omega) hb
  simp only [decide_eq_true_eq] at h1 h2
  have hy := hp.mem_iff.2 hy
  obtain ⟨i, hi, rfl⟩ := List.getElem_of_mem hx
  obtain ⟨j, hj, rfl⟩ := List.getElem_of_mem hy
  rw [List.pairwise_iff_getElem] at ha
  rcases Nat.lt_trichotomy i j with h | h | h
  · have := ha i j hi hj h; omega
  · subst h; rfl
  · have := ha j i hj hi h; omega
theorem sorts_pw {d r : List Window} (h : Sorts sortWin_cf d r) : r.Pairwise fun x y => decide (x.frm ≤ y.frm) = true := by
  rw [List.pairwise_iff_getElem]
  intro i j hi hj hij
  have h1 := h.2 i j hij (by have := h.1.length_eq; omega)
  have h2 := sortWin_lt (r.getD j Dat.d0) (r.getD i Dat.d0)
  unfold ltOf at h2
  have h3 : ¬ (r.getD j Dat.d0).frm < (r.getD i Dat.d0).frm := fun q => by
    rw [decide_eq_true q] at h2
    exact h1 (of_decide_eq_true h2)
  rw [List.getD_eq_getElem?_getD, List.getD_eq_getElem?_getD, List.getElem?_eq_getElem hi, List.getElem?_eq_getElem hj] at h3
  have h3 : ¬ r[j].frm < r[i].frm := h3
  simp only [decide_eq_true_eq]; omega
theorem sortWl_pw (d : List Window) : (sortWl d).Pairwise fun x y => decide (x.frm ≤ y.frm) = true :=
  List.pairwise_mergeSort (by intro a b c; simp; omega) (by intro a b; simp; omega) _
theorem sorts_eq {f : Int} {d r : List Window} (h : Sorts sortWin_cf d r) (hc : wchkV ⟨f, r⟩ = 0 ∨ wchkV ⟨f, sortWl d⟩ = 0) : r = sortWl d := by
  have hp : r.Perm (sortWl d) := h.1.trans (List.mergeSort_perm d _).symm
  rcases hc with hc | hc
  · exact uniqW hp (okW_strict (wchk_iff.1 hc).ok) (sortWl_pw d)
  · exact (uniqW hp.symm (okW_strict (wchk_iff.1 hc).ok) (sorts_pw h)).symm
def make_R (r : Th (Table × Int)) : AV := .tup [.agg [.i .i64 fun _ => (r ()).1.frame, .own 0 fun _ => (r ()).1.windows.length], .i .i64 fun _ => (r ()).2]
def make_H (r : Th (Table × Int)) : Hp := [vecO 42 fun _ => (r ()).1.windows]
def make_P (size : Int) (l : (List Want)) : Prop := l.length ≤ 9223372036854775807
def make_C : PC := fun A K => match A with
  | [.i .i64 size, l] => Ob (fun _ => Leaf.ok (List Want) l ∧ make_P (size ()) (Leaf.val l)) (Gen (α := Table × Int) (fun _ => makeV (size ()) (Leaf.val l)) fun r => K (make_R fun _ => r) (make_H fun _ => r))
  | _ => Bad 1002
noncomputable def cMk : FuncId → Con := fun f => match f with
  | 37 => pureCon (detPC wfrm_D)
  | 38 => pureCon (detPC wanted_D)
  | 42 => pureCon (detPC wchk_D)
  | 39 => sortWin_K
  | _ => fun _ _ _ => Bad 1001
theorem cMk_ok : ConOk Tryz.prog cMk := fun f A H K h => by
  unfold cMk at h
  split at h
  · exact ⟨⟨Tryz.f37, Tryz.func37, by kernel_rfl, by kernel_rfl⟩, pureCon_ok wfrm_ok h⟩
  · exact ⟨⟨Tryz.f38, Tryz.func38, by kernel_rfl, by kernel_rfl⟩, pureCon_ok wanted_ok h⟩
  · exact ⟨⟨Tryz.f42, Tryz.func42, by kernel_rfl, by kernel_rfl⟩, pureCon_ok wchk_ok h⟩
  · exact ⟨⟨Tryz.f39, Tryz.func39, by kernel_rfl, by kernel_rfl⟩, sortWin_ok h⟩
  · cases h
set_option maxRecDepth 100000 in
set_option maxHeartbeats 4000000 in
theorem make_vc (size : Int) (l : (List Want)) (hp : make_P size l) : FnOk Tryz.prog 22 [.i .i64 fun _ => size, Leaf.av fun _ => l] [] (outA (make_R fun _ => makeV size l) (make_H fun _ => makeV size l)) := by
  refine fn_ok envOk zl cMk_ok noDraws_ok (keep := [0, 1, 4, 5, 6, 8, 9, 11, 12, 15, 19, 21, 22, 23, 24, 30, 40, 44, 45, 46, 47, 52, 77]) Tryz.func22 rfl ?_
  have hp' : l.length ≤ 9223372036854775807 := hp
  have fin0 : ∀ (e : Int) kl H, makeV size l = (⟨0, []⟩, e) → outA (make_R fun _ => makeV size l) (make_H fun _ => makeV size l) (.tup [.agg [.i .i64 fun _ => 0, .nil], .i .i64 fun _ => e]) H kl := fun e kl H h => by
    rw [h]
    cbv
    repeat' first | (refine Stp.mk ?_; cbv) | (refine Gen.mk fun r hr => ?_; (try simp only [Dat.ok, Dat.dec, Leaf.ok, Leaf.val, Z0, Z1, Z2, Z3, Z4, Z5, Z6, Z7, val_sl, val_nil] at hr); cbv) | exact trivial | rfl | refine Both.mk ?_ ?_ | (refine Imp.mk fun h => ?_; (try dsimp only at h); (try simp only [nc, Int.toNat_natCast, ne_eq, zz] at h); (try simp only [nc] at h)) | refine Ob.mk ?_ ?_ | refine Chk.mk (by kernel_rfl) ?_ | refine Eq'.mk ?_ | (refine AllN.mk fun i hi => ?_; cbv) | (refine AllC.mk fun c hc hcm => ?_; (try dsimp only at hc); cbv) | (refine AllS.mk fun r hr => ?_; (try simp only [Dat.ok, Dat.dec, Leaf.ok, Leaf.val, Z0, Z1, Z2, Z3, Z4, Z5, Z6, Z7, val_sl] at hr); cbv)
    all_goals first | rfl | (exfalso; omega)
  have fin1 : ∀ (d : List Window) (n : Nat) kl x y H, makeV size l = (⟨size, d⟩, 0) → n = d.length → outA (make_R fun _ => makeV size l) (make_H fun _ => makeV size l) (.tup [.agg [.i .i64 fun _ => size, .own 2 fun _ => n], .i .i64 fun _ => 0]) (x :: y :: vecO 42 (fun _ => d) :: H) kl := fun d n kl x y H h hn => by
    subst hn
    rw [h]
    cbv
    repeat' first | (refine Stp.mk ?_; cbv) | (refine Gen.mk fun r hr => ?_; (try simp only [Dat.ok, Dat.dec, Leaf.ok, Leaf.val, Z0, Z1, Z2, Z3, Z4, Z5, Z6, Z7, val_sl, val_nil] at hr); cbv) | exact trivial | rfl | refine Both.mk ?_ ?_ | (refine Imp.mk fun h => ?_; (try dsimp only at h); (try simp only [nc, Int.toNat_natCast, ne_eq, zz] at h); (try simp only [nc] at h)) | refine Ob.mk ?_ ?_ | refine Chk.mk (by kernel_rfl) ?_ | refine Eq'.mk ?_ | (refine AllN.mk fun i hi => ?_; cbv) | (refine AllC.mk fun c hc hcm => ?_; (try dsimp only at hc); cbv) | (refine AllS.mk fun r hr => ?_; (try simp only [Dat.ok, Dat.dec, Leaf.ok, Leaf.val, Z0, Z1, Z2, Z3, Z4, Z5, Z6, Z7, val_sl] at hr); cbv)
  generalize hK : outA (make_R fun _ => makeV size l) (make_H fun _ => makeV size l) = K at fin0 fin1 ⊢
  cbv
  repeat' first | (show Stp _; exfalso; first | omega | (exact h ‹_›) | (exact absurd ‹_› h) | (exact Bool.false_ne_true (h.symm.trans (show _ = true by assumption)))) | (refine Stp.mk ?_; cbv) | (refine Gen.mk fun r hr => ?_; (try simp only [Dat.ok, Dat.dec, Leaf.ok, Leaf.val, Z0, Z1, Z2, Z3, Z4, Z5, Z6, Z7, val_sl, val_nil] at hr); cbv) | exact trivial | rfl | refine Both.mk ?_ ?_ | (refine Imp.mk fun h => ?_; (try dsimp only at h); (try simp only [nc, Int.toNat_natCast, ne_eq, zz] at h); (try simp only [nc] at h)) | refine Ob.mk ?_ ?_ | refine Chk.mk (by kernel_rfl) ?_ | refine Eq'.mk ?_ | (refine AllN.mk fun i hi => ?_; cbv) | (refine AllC.mk fun c hc hcm => ?_; (try dsimp only at hc); cbv) | (refine AllS.mk fun r hr => ?_; (try simp only [Dat.ok, Dat.dec, Leaf.ok, Leaf.val, Z0, Z1, Z2, Z3, Z4, Z5, Z6, Z7, val_sl] at hr); cbv)
  all_goals ((try dsimp only at *); (try simp only [nc, Int.toNat_natCast, ne_eq, zz] at *); (try simp only [nc] at *))
  all_goals first
    | (refine fin0 _ _ _ ?_
       first
         | (rw [makeV, if_pos (by simp_all)]; done)
         | (rw [makeV, if_neg (by simp_all), if_pos (by omega)]; done))
    | skip
  have hs : sizeB size = true := by assumption
  have hs2 : 1 ≤ size ∧ size ≤ 1000000 := by simpa [sizeB] using hs
  refine LoopVC.frame [5, 6, 8, 23, 24, 30] (MkX size l) (fun x => [(23, .i .i64 fun _ => x.k), (6, .i .i64 fun _ => x.s)]) (fun _ => []) [] (fun x => l.length - x.k) ⟨0, 0, Nat.zero_le _, rfl, Int.le_refl _, by decide, by simp⟩ rfl (fun _ => rfl) ?_ ?_ fun ⟨k, s, hk, ha, s0, s1, he⟩ => ?_
  iterate 2
    · cbv
      repeat' first | (refine Stp.mk ?_; cbv) | (refine Gen.mk fun r hr => ?_; (try simp only [Dat.ok, Dat.dec, Leaf.ok, Leaf.val, Z0, Z1, Z2, Z3, Z4, Z5, Z6, Z7, val_sl, val_nil] at hr); cbv) | exact trivial | rfl | refine Both.mk ?_ ?_ | (refine Imp.mk fun h => ?_; (try dsimp only at h); (try simp only [nc, Int.toNat_natCast, ne_eq, zz] at h); (try simp only [nc] at h)) | refine Ob.mk ?_ ?_ | refine Chk.mk (by kernel_rfl) ?_ | refine Eq'.mk ?_ | (refine AllN.mk fun i hi => ?_; cbv) | (refine AllC.mk fun c hc hcm => ?_; (try dsimp only at hc); cbv) | (refine AllS.mk fun r hr => ?_; (try simp only [Dat.ok, Dat.dec, Leaf.ok, Leaf.val, Z0, Z1, Z2, Z3, Z4, Z5, Z6, Z7, val_sl] at hr); cbv)
  · cbv
    repeat' first | (show Stp _; exfalso; first | omega | (exact h ‹_›) | (exact absurd ‹_› h) | (exact Bool.false_ne_true (h.symm.trans (show _ = true by assumption)))) | (refine Stp.mk ?_; cbv) | (refine Gen.mk fun r hr => ?_; (try simp only [Dat.ok, Dat.dec, Leaf.ok, Leaf.val, Z0, Z1, Z2, Z3, Z4, Z5, Z6, Z7, val_sl, val_nil] at hr); cbv) | exact trivial | rfl | refine Both.mk ?_ ?_ | (refine Imp.mk fun h => ?_; (try dsimp only at h); (try simp only [nc, Int.toNat_natCast, ne_eq, zz] at h); (try simp only [nc] at h)) | refine Ob.mk ?_ ?_ | refine Chk.mk (by kernel_rfl) ?_ | refine Eq'.mk ?_ | (refine AllN.mk fun i hi => ?_; cbv) | (refine AllC.mk fun c hc hcm => ?_; (try dsimp only at hc); cbv) | (refine AllS.mk fun r hr => ?_; (try simp only [Dat.ok, Dat.dec, Leaf.ok, Leaf.val, Z0, Z1, Z2, Z3, Z4, Z5, Z6, Z7, val_sl] at hr); cbv)
    all_goals ((try dsimp only at *); (try simp only [nc, Int.toNat_natCast, ne_eq, zz] at *); (try simp only [nc] at *))
    all_goals try rw [nc] at *
    all_goals try simp only [Dat.dec, Leaf.val, Z0, Z1, Z2, Z3, Z4, Z5, Z6, Z7, val_sl] at *
    all_goals try (have hqw := quoW hs2.1 hs2.2 (by assumption : wantB size (l.getD k Dat.d0) = true); have hwi := wantB_iff.1 (by assumption : wantB size (l.getD k Dat.d0) = true))
    all_goals first
      | omega
      | exact ⟨by omega, by omega⟩
      | (unfold InR; omega)
      | (refine ⟨by omega, ?_⟩; unfold InR; omega)
      | exact ⟨⟨trivial, trivial, trivial, trivial⟩, hs2⟩
      | (have hk2 : k < l.length := by omega
         refine ⟨⟨k + 1, s + size.tdiv (l.getD k Dat.d0).every, by omega, wk_take hk2 ha (by assumption), by omega, by omega, by rw [he, sumQ_drop hk2]; omega⟩, ?_, ?_, rfl, by (try dsimp only); omega⟩
         · cbv
           repeat' first | (refine Stp.mk ?_; cbv) | (refine Gen.mk fun r hr => ?_; (try simp only [Dat.ok, Dat.dec, Leaf.ok, Leaf.val, Z0, Z1, Z2, Z3, Z4, Z5, Z6, Z7, val_sl, val_nil] at hr); cbv) | exact trivial | rfl | refine Both.mk ?_ ?_ | (refine Imp.mk fun h => ?_; (try dsimp only at h); (try simp only [nc, Int.toNat_natCast, ne_eq, zz] at h); (try simp only [nc] at h)) | refine Ob.mk ?_ ?_ | refine Chk.mk (by kernel_rfl) ?_ | refine Eq'.mk ?_ | (refine AllN.mk fun i hi => ?_; cbv) | (refine AllC.mk fun c hc hcm => ?_; (try dsimp only at hc); cbv) | (refine AllS.mk fun r hr => ?_; (try simp only [Dat.ok, Dat.dec, Leaf.ok, Leaf.val, Z0, Z1, Z2, Z3, Z4, Z5, Z6, Z7, val_sl] at hr); cbv)
         · cbv
           repeat' first | (refine Stp.mk ?_; cbv) | (refine Gen.mk fun r hr => ?_; (try simp only [Dat.ok, Dat.dec, Leaf.ok, Leaf.val, Z0, Z1, Z2, Z3, Z4, Z5, Z6, Z7, val_sl, val_nil] at hr); cbv) | exact trivial | rfl | refine Both.mk ?_ ?_ | (refine Imp.mk fun h => ?_; (try dsimp only at h); (try simp only [nc, Int.toNat_natCast, ne_eq, zz] at h); (try simp only [nc] at h)) | refine Ob.mk ?_ ?_ | refine Chk.mk (by kernel_rfl) ?_ | refine Eq'.mk ?_ | (refine AllN.mk fun i hi => ?_; cbv) | (refine AllC.mk fun c hc hcm => ?_; (try dsimp only at hc); cbv) | (refine AllS.mk fun r hr => ?_; (try simp only [Dat.ok, Dat.dec, Leaf.ok, Leaf.val, Z0, Z1, Z2, Z3, Z4, Z5, Z6, Z7, val_sl] at hr); cbv))
      | (have hk2 : k < l.length := by omega
         refine fin0 _ _ _ ?_
         rw [makeV, if_neg (fun q => q hs), if_neg (by omega), if_pos]
         intro hall
         have hg := wk_get hk2 hall
         have hf := (by assumption : wantB size (l.getD k Dat.d0) = false)
         rw [hg] at hf
         exact absurd hf (by decide))
      | skip
    all_goals have hall : l.all (wantB size) = true := (by rw [List.take_of_length_le (by omega)] at ha; exact ha)
    all_goals have hsq : sumQ size l = s := (by rw [he, List.drop_eq_nil_of_le (by omega), sumQ, Int.add_zero])
    all_goals first
      | (refine fin0 _ _ _ ?_
         rw [makeV, if_neg (fun q => q hs), if_neg (by omega), if_neg (fun q => q hall), if_pos (by omega)])
      | skip
    refine LoopVC.frame [11, 12, 46, 47, 52] (MwX size l) (fun x => [(46, .i .i64 fun _ => x.k)]) (fun x => [(1, .blk [.i .i64 fun _ => size, .own 2 fun _ => x.out.length]), (2, vecO 42 fun _ => x.out)]) [2] (fun x => l.length - x.k) ⟨0, [], Nat.zero_le _, Nat.le_refl _, by simp⟩ rfl (fun _ => rfl) ?_ ?_ fun ⟨k, out, hk, hl, he⟩ => ?_
    · cbv
      repeat' first | (refine Stp.mk ?_; cbv) | (refine Gen.mk fun r hr => ?_; (try simp only [Dat.ok, Dat.dec, Leaf.ok, Leaf.val, Z0, Z1, Z2, Z3, Z4, Z5, Z6, Z7, val_sl, val_nil] at hr); cbv) | exact trivial | rfl | refine Both.mk ?_ ?_ | (refine Imp.mk fun h => ?_; (try dsimp only at h); (try simp only [nc, Int.toNat_natCast, ne_eq, zz] at h); (try simp only [nc] at h)) | refine Ob.mk ?_ ?_ | refine Chk.mk (by kernel_rfl) ?_ | refine Eq'.mk ?_ | (refine AllN.mk fun i hi => ?_; cbv) | (refine AllC.mk fun c hc hcm => ?_; (try dsimp only at hc); cbv) | (refine AllS.mk fun r hr => ?_; (try simp only [Dat.ok, Dat.dec, Leaf.ok, Leaf.val, Z0, Z1, Z2, Z3, Z4, Z5, Z6, Z7, val_sl] at hr); cbv)
    · cbv
      repeat' first | (refine Stp.mk ?_; cbv) | (refine Gen.mk fun r hr => ?_; (try simp only [Dat.ok, Dat.dec, Leaf.ok, Leaf.val, Z0, Z1, Z2, Z3, Z4, Z5, Z6, Z7, val_sl, val_nil] at hr); cbv) | exact trivial | rfl | refine Both.mk ?_ ?_ | (refine Imp.mk fun h => ?_; (try dsimp only at h); (try simp only [nc, Int.toNat_natCast, ne_eq, zz] at h); (try simp only [nc] at h)) | refine Ob.mk ?_ ?_ | refine Chk.mk (by kernel_rfl) ?_ | refine Eq'.mk ?_ | (refine AllN.mk fun i hi => ?_; cbv) | (refine AllC.mk fun c hc hcm => ?_; (try dsimp only at hc); cbv) | (refine AllS.mk fun r hr => ?_; (try simp only [Dat.ok, Dat.dec, Leaf.ok, Leaf.val, Z0, Z1, Z2, Z3, Z4, Z5, Z6, Z7, val_sl] at hr); cbv)
      all_goals ((try dsimp only at *); (try simp only [nc, Int.toNat_natCast, ne_eq, zz] at *); (try simp only [nc] at *))
      all_goals trace_state
      all_goals fail
    · cbv
      repeat' first | (show Stp _; exfalso; first | omega | (exact h ‹_›) | (exact absurd ‹_› h) | (exact Bool.false_ne_true (h.symm.trans (show _ = true by assumption)))) | (refine Stp.mk ?_; cbv) | (refine Gen.mk fun r hr => ?_; (try simp only [Dat.ok, Dat.dec, Leaf.ok, Leaf.val, Z0, Z1, Z2, Z3, Z4, Z5, Z6, Z7, val_sl, val_nil] at hr); cbv) | exact trivial | rfl | refine Both.mk ?_ ?_ | (refine Imp.mk fun h => ?_; (try dsimp only at h); (try simp only [nc, Int.toNat_natCast, ne_eq, zz] at h); (try simp only [nc] at h)) | refine Ob.mk ?_ ?_ | refine Chk.mk (by kernel_rfl) ?_ | refine Eq'.mk ?_ | (refine AllN.mk fun i hi => ?_; cbv) | (refine AllC.mk fun c hc hcm => ?_; (try dsimp only at hc); cbv) | (refine AllS.mk fun r hr => ?_; (try simp only [Dat.ok, Dat.dec, Leaf.ok, Leaf.val, Z0, Z1, Z2, Z3, Z4, Z5, Z6, Z7, val_sl] at hr); cbv)
      all_goals ((try dsimp only at *); (try simp only [nc, Int.toNat_natCast, ne_eq, zz] at *); (try simp only [nc] at *))
      all_goals try rw [nc] at *
      all_goals try simp only [Dat.dec, Leaf.val, Z0, Z1, Z2, Z3, Z4, Z5, Z6, Z7, val_sl] at *
      all_goals first
        | omega
        | exact ⟨by omega, by omega⟩
        | exact ⟨rfl, trivial, fun i _ => Dat.hok _, by omega⟩
        | (rw [hr.1.length_eq]; exact Nat.le_refl _)
        | exact ⟨⟨trivial, rfl, fun i _ => Dat.hok _⟩, show (slV (α := Window) _).length ≤ _ by rw [val_len (α := Window) (l := r) 3 hr.1.length_eq.symm, hr.1.length_eq]; omega⟩
        | skip
      · have hk2 : k < l.length := by omega
        have hw := wantB_iff.1 (wk_get hk2 hall)
        refine LoopVC.frame [12, 52] (MvX size l k) (fun x => [(12, .i .i64 fun _ => x.n)]) (fun x => [(1, .blk [.i .i64 fun _ => size, .own 2 fun _ => x.out.length]), (2, vecO 42 fun _ => x.out)]) [2] (fun x => (size - x.n).toNat)
          ⟨0, out, Int.le_refl _, by decide, Nat.le_trans hl (Nat.le_add_right _ _), Nat.le_trans hl (Nat.mul_le_mul_right _ (Nat.le_succ k)), by rw [he, genL_drop hk2]⟩ rfl (fun _ => rfl) ?_ ?_ fun ⟨n, out', n0, n1, hl1, hl2, he'⟩ => ?_
        iterate 2
          · cbv
            repeat' first | (refine Stp.mk ?_; cbv) | (refine Gen.mk fun r hr => ?_; (try simp only [Dat.ok, Dat.dec, Leaf.ok, Leaf.val, Z0, Z1, Z2, Z3, Z4, Z5, Z6, Z7, val_sl, val_nil] at hr); cbv) | exact trivial | rfl | refine Both.mk ?_ ?_ | (refine Imp.mk fun h => ?_; (try dsimp only at h); (try simp only [nc, Int.toNat_natCast, ne_eq, zz] at h); (try simp only [nc] at h)) | refine Ob.mk ?_ ?_ | refine Chk.mk (by kernel_rfl) ?_ | refine Eq'.mk ?_ | (refine AllN.mk fun i hi => ?_; cbv) | (refine AllC.mk fun c hc hcm => ?_; (try dsimp only at hc); cbv) | (refine AllS.mk fun r hr => ?_; (try simp only [Dat.ok, Dat.dec, Leaf.ok, Leaf.val, Z0, Z1, Z2, Z3, Z4, Z5, Z6, Z7, val_sl] at hr); cbv)
        · cbv
          repeat' first | (show Stp _; exfalso; first | omega | (exact h ‹_›) | (exact absurd ‹_› h) | (exact Bool.false_ne_true (h.symm.trans (show _ = true by assumption)))) | (refine Stp.mk ?_; cbv) | (refine Gen.mk fun r hr => ?_; (try simp only [Dat.ok, Dat.dec, Leaf.ok, Leaf.val, Z0, Z1, Z2, Z3, Z4, Z5, Z6, Z7, val_sl, val_nil] at hr); cbv) | exact trivial | rfl | refine Both.mk ?_ ?_ | (refine Imp.mk fun h => ?_; (try dsimp only at h); (try simp only [nc, Int.toNat_natCast, ne_eq, zz] at h); (try simp only [nc] at h)) | refine Ob.mk ?_ ?_ | refine Chk.mk (by kernel_rfl) ?_ | refine Eq'.mk ?_ | (refine AllN.mk fun i hi => ?_; cbv) | (refine AllC.mk fun c hc hcm => ?_; (try dsimp only at hc); cbv) | (refine AllS.mk fun r hr => ?_; (try simp only [Dat.ok, Dat.dec, Leaf.ok, Leaf.val, Z0, Z1, Z2, Z3, Z4, Z5, Z6, Z7, val_sl] at hr); cbv)
          all_goals ((try dsimp only at *); (try simp only [nc, Int.toNat_natCast, ne_eq, zz] at *); (try simp only [nc] at *))
          all_goals try rw [nc] at *
          all_goals try simp only [Dat.dec, Leaf.val, Z0, Z1, Z2, Z3, Z4, Z5, Z6, Z7, val_sl] at *
          all_goals first
            | omega
            | (unfold InR; omega)
            | exact ⟨Nat.le_refl _, trivial, by omega, by omega⟩
            | exact ⟨Nat.le_refl _, Nat.le_refl _, by omega, by omega⟩
            | skip
          · refine ⟨⟨n + (l.getD k Dat.d0).every, out' ++ [⟨n + (l.getD k Dat.d0).frm, (l.getD k Dat.d0).long, (l.getD k Dat.d0).owner⟩], by omega, by omega, by rw [List.length_append, List.length_singleton]; omega, by rw [List.length_append, List.length_singleton]; omega, by rw [he', genN_lt (by omega) (by omega)]; simp⟩, ?_, ?_, rfl, by (try dsimp only); omega⟩
            · cbv
              repeat' first | (refine Stp.mk ?_; cbv) | (refine Gen.mk fun r hr => ?_; (try simp only [Dat.ok, Dat.dec, Leaf.ok, Leaf.val, Z0, Z1, Z2, Z3, Z4, Z5, Z6, Z7, val_sl, val_nil] at hr); cbv) | exact trivial | rfl | refine Both.mk ?_ ?_ | (refine Imp.mk fun h => ?_; (try dsimp only at h); (try simp only [nc, Int.toNat_natCast, ne_eq, zz] at h); (try simp only [nc] at h)) | refine Ob.mk ?_ ?_ | refine Chk.mk (by kernel_rfl) ?_ | refine Eq'.mk ?_ | (refine AllN.mk fun i hi => ?_; cbv) | (refine AllC.mk fun c hc hcm => ?_; (try dsimp only at hc); cbv) | (refine AllS.mk fun r hr => ?_; (try simp only [Dat.ok, Dat.dec, Leaf.ok, Leaf.val, Z0, Z1, Z2, Z3, Z4, Z5, Z6, Z7, val_sl] at hr); cbv)
            · cbv
              repeat' first | (refine Stp.mk ?_; cbv) | (refine Gen.mk fun r hr => ?_; (try simp only [Dat.ok, Dat.dec, Leaf.ok, Leaf.val, Z0, Z1, Z2, Z3, Z4, Z5, Z6, Z7, val_sl, val_nil] at hr); cbv) | exact trivial | rfl | refine Both.mk ?_ ?_ | (refine Imp.mk fun h => ?_; (try dsimp only at h); (try simp only [nc, Int.toNat_natCast, ne_eq, zz] at h); (try simp only [nc] at h)) | refine Ob.mk ?_ ?_ | refine Chk.mk (by kernel_rfl) ?_ | refine Eq'.mk ?_ | (refine AllN.mk fun i hi => ?_; cbv) | (refine AllC.mk fun c hc hcm => ?_; (try dsimp only at hc); cbv) | (refine AllS.mk fun r hr => ?_; (try simp only [Dat.ok, Dat.dec, Leaf.ok, Leaf.val, Z0, Z1, Z2, Z3, Z4, Z5, Z6, Z7, val_sl] at hr); cbv)
              all_goals ((try dsimp only at *); (try simp only [nc, Int.toNat_natCast, ne_eq, zz] at *); (try simp only [nc] at *))
              all_goals first
                | (rw [List.length_append, List.length_singleton]; done)
                | (rw [gd_snoc _ _ _ _ (by omega)]; cases decide (i < out'.length) <;> rfl)
                | fail
          · refine ⟨⟨k + 1, out', by omega, hl2, by rw [he', genN_ge (by omega)]; simp⟩, ?_, ?_, rfl, by (try dsimp only); omega⟩
            · cbv
              repeat' first | (refine Stp.mk ?_; cbv) | (refine Gen.mk fun r hr => ?_; (try simp only [Dat.ok, Dat.dec, Leaf.ok, Leaf.val, Z0, Z1, Z2, Z3, Z4, Z5, Z6, Z7, val_sl, val_nil] at hr); cbv) | exact trivial | rfl | refine Both.mk ?_ ?_ | (refine Imp.mk fun h => ?_; (try dsimp only at h); (try simp only [nc, Int.toNat_natCast, ne_eq, zz] at h); (try simp only [nc] at h)) | refine Ob.mk ?_ ?_ | refine Chk.mk (by kernel_rfl) ?_ | refine Eq'.mk ?_ | (refine AllN.mk fun i hi => ?_; cbv) | (refine AllC.mk fun c hc hcm => ?_; (try dsimp only at hc); cbv) | (refine AllS.mk fun r hr => ?_; (try simp only [Dat.ok, Dat.dec, Leaf.ok, Leaf.val, Z0, Z1, Z2, Z3, Z4, Z5, Z6, Z7, val_sl] at hr); cbv)
            · cbv
              repeat' first | (refine Stp.mk ?_; cbv) | (refine Gen.mk fun r hr => ?_; (try simp only [Dat.ok, Dat.dec, Leaf.ok, Leaf.val, Z0, Z1, Z2, Z3, Z4, Z5, Z6, Z7, val_sl, val_nil] at hr); cbv) | exact trivial | rfl | refine Both.mk ?_ ?_ | (refine Imp.mk fun h => ?_; (try dsimp only at h); (try simp only [nc, Int.toNat_natCast, ne_eq, zz] at h); (try simp only [nc] at h)) | refine Ob.mk ?_ ?_ | refine Chk.mk (by kernel_rfl) ?_ | refine Eq'.mk ?_ | (refine AllN.mk fun i hi => ?_; cbv) | (refine AllC.mk fun c hc hcm => ?_; (try dsimp only at hc); cbv) | (refine AllS.mk fun r hr => ?_; (try simp only [Dat.ok, Dat.dec, Leaf.ok, Leaf.val, Z0, Z1, Z2, Z3, Z4, Z5, Z6, Z7, val_sl] at hr); cbv)
              all_goals ((try dsimp only at *); (try simp only [nc, Int.toNat_natCast, ne_eq, zz] at *); (try simp only [nc] at *))
              all_goals first
                | (rw [List.length_append, List.length_singleton]; done)
                | (rw [gd_snoc _ _ _ _ (by omega)]; cases decide (i < out'.length) <;> rfl)
                | fail
      · have ev := val_len (α := Window) (l := r) (n := out.length) 3 hr.1.length_eq.symm
        have hg : genL size l = out := by rw [he, List.drop_eq_nil_of_le (by omega)]; simp [genL]
        rename ¬ wchkV _ = 0 => hbad
        rw [ev] at hbad
        refine fin0 _ _ _ ?_
        rw [makeV, if_neg (fun q => q hs), if_neg (by omega), if_neg (fun q => q hall), if_neg (by omega), if_neg]
        rw [hg]
        intro q
        rw [sorts_eq hr (.inr q)] at hbad
        exact hbad q
      · have ev := val_len (α := Window) (l := r) (n := out.length) 3 hr.1.length_eq.symm
        have hg : genL size l = out := by rw [he, List.drop_eq_nil_of_le (by omega)]; simp [genL]
        rename wchkV _ = 0 => hgood
        rw [ev] at hgood
        have e := sorts_eq hr (.inl hgood)
        refine fin1 r _ _ _ _ _ ?_ hr.1.length_eq.symm
        rw [makeV, if_neg (fun q => q hs), if_neg (by omega), if_neg (fun q => q hall), if_neg (by omega), hg, ← e, if_pos hgood]
theorem make_ok : PcOk Tryz.prog 22 (make_C) := fun A K h => by
  unfold make_C at h
  split at h
  · rename_i size l
    cases h with
    | mk h1 h2 =>
      obtain ⟨g0, hp⟩ := h1
      refine FnOk.pre ?_ (A' := [.i .i64 fun _ => size (), Leaf.av fun _ => (Leaf.val l : (List Want))]) (.mk (.mk (.mk rfl) (.mk rfl)) (.mk (Leaf.hle _ g0) (trivial)))
      exact FnOk.out (K := fun r H _ => K r H) (make_vc (size ()) (Leaf.val l) hp) rfl h2.out
  · cases h

end Go.Proofs.YtnjngpjkhddnfaaGreatDoor
