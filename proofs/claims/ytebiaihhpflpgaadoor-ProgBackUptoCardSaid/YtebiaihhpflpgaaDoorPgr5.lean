/- prog.Print: walked. -/
import Derived.Test.YtebiaihhpflpgaaDoorPgr1
import Derived.Test.YtebiaihhpflpgaaDoorPgr4
import Derived.Test.YtebiaihhpflpgaaDoorPreL
import Derived.Test.YtebiaihhpflpgaaDoorCodeP
import Derived.Test.YtebiaihhpflpgaaDoorAbsG3
set_option linter.all false
namespace Go.Proofs.YtebiaihhpflpgaaDoor
open Go Go.Abs

inductive WrC (A : List AV) (H : Hp) (K : Kont) : Prop where
  | fresh (s : ByteArray) (h0 : 0 < s.size) (hl : s.size ≤ 140737488355328) (h1 : H.length = 1) (h2 : leL 1 A [.ptr 0 0, .s fun _ => s]) (h3 : leH H [bdF]) (h4 : K (.tup [.any, .any]) [bxO fun _ => s.size, vecO 5 fun _ => u8L s] [])
  | used (t s : ByteArray) (ht : 0 < t.size) (h0 : 0 < s.size) (hl : t.size + s.size ≤ 140737488355328) (h1 : H.length = 2) (h2 : leL 2 A [.ptr 0 0, .s fun _ => s]) (h3 : leH H [bxO fun _ => t.size, vecO 5 fun _ => u8L t])
    (h4 : K (.tup [.any, .any]) [bxO fun _ => (t ++ s).size, vecO 5 fun _ => u8L (t ++ s)] [1])
noncomputable def wrC_K : Con := subCon WrC
theorem wrC_ok {A : List AV} {H : Hp} {K : Kont} (hv : wrC_K A H K) : FnOk Tryd.prog 17 A H K :=
  subCon_ok (fun {A H K} hv => by
    cases hv with
    | fresh s h0 hl h1 h2 h3 h4 => exact preL (FnOk.mono (wr_fresh s h0 hl) fun r H kl hq => by obtain ⟨rfl, rfl, rfl⟩ := hq; exact h4) h1 h2 h3
    | used t s ht h0 hl h1 h2 h3 h4 => exact preL (FnOk.mono (wr_used t s ht h0 hl) fun r H kl hq => by obtain ⟨rfl, rfl, rfl⟩ := hq; exact h4) h1 h2 h3) hv
inductive StC (A : List AV) (H : Hp) (K : Kont) : Prop where
  | fresh (h1 : H.length = 1) (h2 : leL 1 A [.ptr 0 0]) (h3 : leH H [bdF]) (h4 : K (.s fun _ => ⟨#[]⟩) [.dead] [])
  | used (t : ByteArray) (ht : 0 < t.size) (h1 : H.length = 2) (h2 : leL 2 A [.ptr 0 0]) (h3 : leH H [bxO fun _ => t.size, vecO 5 fun _ => u8L t]) (h4 : K (.s fun _ => t) [.dead, .dead] [])
noncomputable def stC_K : Con := subCon StC
theorem stC_ok {A : List AV} {H : Hp} {K : Kont} (hv : stC_K A H K) : FnOk Tryd.prog 19 A H K :=
  subCon_ok (fun {A H K} hv => by
    cases hv with
    | fresh h1 h2 h3 h4 => exact preL (FnOk.mono st_fresh fun r H kl hq => by obtain ⟨rfl, rfl, rfl⟩ := hq; exact h4) h1 h2 h3
    | used t ht h1 h2 h3 h4 => exact preL (FnOk.mono (st_used t ht) fun r H kl hq => by obtain ⟨rfl, rfl, rfl⟩ := hq; exact h4) h1 h2 h3) hv
def spB : ByteArray := ⟨#[32]⟩
def nlB : ByteArray := ⟨#[10]⟩
def lineV (i : Ins) : ByteArray := joinV (wordsV (shapesV.getD i.code.toNat Dat.d0) i) spB ++ nlB
def linesV : List Ins → ByteArray
  | [] => ⟨#[]⟩
  | i :: r => lineV i ++ linesV r
def printV (p : List Ins) : ByteArray × Int := if checkP p = 0 then (linesV p, 0) else (⟨#[]⟩, checkP p)
theorem itoa_len {n : Int} (h : -2147483648 ≤ n ∧ n ≤ 2147483647) : (itoaB n).size ≤ 21 := itoaB_size ⟨by omega, by omega⟩
theorem join_size {l : List ByteArray} {k : Nat} (h : ∀ x ∈ l, x.size ≤ k) : (joinV l spB).size ≤ l.length * (k + 1) := by
  have e : (joinV l spB).size = (Lib.join (l.map (·.data.toList)) [32]).length := by simp [joinV, ByteArray.size, spB]
  rw [e]
  clear e
  induction l with
  | nil => simp [Lib.join_nil]
  | cons x r ih =>
    have hx := h x (List.mem_cons_self ..)
    have hs : x.data.toList.length = x.size := (Lib.size_eq x).symm
    cases r with
    | nil => rw [List.map_cons, List.map_nil, Lib.join_one, hs]; simp; omega
    | cons y r =>
      have := ih fun z hz => h z (List.mem_cons_of_mem _ hz)
      rw [List.map_cons, List.map_cons, join_cc, List.length_append, List.length_cons, hs]
      rw [List.map_cons] at this
      simp only [List.length_cons, Nat.add_mul] at this ⊢
      omega
theorem shape_word (k : Nat) : (shapesV.getD k Dat.d0).word.size ≤ 4 := by
  rcases Nat.lt_or_ge k 12 with h | h
  · have : ∀ k : Fin 12, (shapesV.getD k.1 Dat.d0).word.size ≤ 4 := by decide
    exact this ⟨k, h⟩
  · rw [List.getD_eq_getElem?_getD, List.getElem?_eq_none (by simpa [shapesV] using h)]; decide
theorem words_size {s : shape} {i : Ins} (hs : s.word.size ≤ 4) (hi : insIn i) : ∀ x ∈ wordsV s i, x.size ≤ 22 := by
  have h1 := itoaB_size hi.1
  have h2 := itoaB_size hi.2
  have hr : ∀ n, (regV n).size = 1 + (itoaB n).size := fun n => ByteArray.size_append ..
  intro x hx
  unfold wordsV at hx
  rcases List.mem_append.1 hx with hx | hx
  · rcases List.mem_append.1 hx with hx | hx
    · rw [List.mem_singleton.1 hx]; omega
    · split at hx
      · rw [List.mem_singleton.1 hx, hr]; omega
      · cases hx
  · split at hx
    · rw [List.mem_singleton.1 hx, hr]; omega
    · split at hx
      · rw [List.mem_singleton.1 hx]; omega
      · cases hx
theorem wordsV_len (s : shape) (i : Ins) : (wordsV s i).length ≤ 3 := by
  unfold wordsV
  rw [List.length_append, List.length_append]
  split <;> split <;> (try split) <;> simp
theorem lineV_size {i : Ins} (hi : insIn i) : 0 < (lineV i).size ∧ (lineV i).size ≤ 70 := by
  have h1 := join_size (words_size (s := shapesV.getD i.code.toNat Dat.d0) (shape_word _) hi)
  have h2 := wordsV_len (shapesV.getD i.code.toNat Dat.d0) i
  have e : (lineV i).size = (joinV (wordsV (shapesV.getD i.code.toNat Dat.d0) i) spB).size + 1 := ByteArray.size_append ..
  have : (wordsV (shapesV.getD i.code.toNat Dat.d0) i).length * (22 + 1) ≤ 3 * 23 := Nat.mul_le_mul_right _ h2
  omega
theorem linesV_snoc : ∀ {p : List Ins} {i : Ins}, linesV (p ++ [i]) = linesV p ++ lineV i
  | [], i => by
    show lineV i ++ (⟨#[]⟩ : ByteArray) = ⟨#[]⟩ ++ lineV i
    rw [show (⟨#[]⟩ : ByteArray) = ByteArray.empty from rfl, ByteArray.append_empty, ByteArray.empty_append]
  | x :: r, i => by
    show lineV x ++ linesV (r ++ [i]) = lineV x ++ linesV r ++ lineV i
    rw [linesV_snoc, ByteArray.append_assoc]
theorem linesV_size {p : List Ins} (h : ∀ i ∈ p, insIn i) : (linesV p).size ≤ p.length * 70 ∧ (p ≠ [] → 0 < (linesV p).size) := by
  induction p with
  | nil => exact ⟨Nat.le_refl _, fun h => absurd rfl h⟩
  | cons x r ih =>
    have h1 := lineV_size (h x (List.mem_cons_self ..))
    have h2 := ih fun i hi => h i (List.mem_cons_of_mem _ hi)
    have e : (linesV (x :: r)).size = (lineV x).size + (linesV r).size := ByteArray.size_append ..
    refine ⟨?_, fun _ => by omega⟩
    rw [List.length_cons, Nat.add_mul]; omega
theorem right_in {i : Ins} {n : Int} (hn : n ≤ 100) (h : rightB i n = true) : insIn i := by
  obtain ⟨-, ⟨a0, a1⟩, b0, b1⟩ := rightB_all hn h
  exact ⟨⟨by omega, by omega⟩, by omega, by omega⟩
theorem take_snI {l : List Ins} {j : Nat} (h : j < l.length) : l.take (j + 1) = l.take j ++ [l.getD j Dat.d0] := by
  rw [List.take_add_one, List.getElem?_eq_getElem h, List.getD_eq_getElem?_getD, List.getElem?_eq_getElem h]; rfl
structure PrX (p : List Ins) where
  k : Nat
  hk : k ≤ p.length
def bdK (k : Nat) (n : Th Nat) : AObj := match k with
  | 0 => bdF
  | _ + 1 => .blk [.ptr 0 0, .own 1 n]
def vcK (k : Nat) (d : Th (List U8)) : AObj := match k with
  | 0 => .dead
  | _ + 1 => vecO 5 d
noncomputable def cPr : FuncId → Con := fun f => match f with
  | 15 => pureCon (detPC checkC_D)
  | 16 => frCon shapesF_D
  | 18 => frCon wordsF_D
  | 11 => pureCon (detPC joinC_D)
  | 17 => wrC_K
  | 19 => stC_K
  | _ => fun _ _ _ => Bad 1001
theorem cPr_ok : ConOk Tryd.prog cPr := fun f A H K h => by
  unfold cPr at h
  split at h
  · exact ⟨⟨Tryd.f15, Tryd.func15, by kernel_rfl, by kernel_rfl⟩, pureCon_ok checkC_ok h⟩
  · exact ⟨⟨Tryd.f16, Tryd.func16, by kernel_rfl, by kernel_rfl⟩, frCon_ok shapesF_okF h⟩
  · exact ⟨⟨Tryd.f18, Tryd.func18, by kernel_rfl, by kernel_rfl⟩, frCon_ok wordsF_okF h⟩
  · exact ⟨⟨Tryd.f11, Tryd.func11, by kernel_rfl, by kernel_rfl⟩, pureCon_ok joinC_ok h⟩
  · exact ⟨⟨Tryd.f17, Tryd.func17, by kernel_rfl, by kernel_rfl⟩, wrC_ok h⟩
  · exact ⟨⟨Tryd.f19, Tryd.func19, by kernel_rfl, by kernel_rfl⟩, stC_ok h⟩
  · cases h
def dPr : FuncId → Option Dt := fun f => match f with
  | _ => none
theorem dPr_ok : DetOk Tryd.prog dPr := fun f d h => by
  unfold dPr at h
  split at h
  · cases h
def printC_R (r : Th (ByteArray × Int)) : AV := .tup [.s fun _ => (r ()).1, .i .i64 fun _ => (r ()).2]
def printC_P (p : (List Ins)) : Prop := p.length ≤ 9223372036854775807
def printC_D : Det := fun A => match A with
  | [p] => some (fun _ => Leaf.ok (List Ins) p ∧ printC_P (Leaf.val p), printC_R fun _ => printV (Leaf.val p))
  | _ => none
set_option maxRecDepth 100000 in
set_option maxHeartbeats 4000000 in
theorem printC_vc (p : (List Ins)) (hp : printC_P p) : FnOk Tryd.prog 6 [Leaf.av fun _ => p] [] (outA (printC_R fun _ => printV p) []) := by
  refine fn_ok envOk zl cPr_ok (mixD_ok envOk zl cPr_ok dPr_ok mixed) (keep := [0, 2, 3, 4, 5, 6, 8, 12, 15, 16, 17, 18]) Tryd.func6 rfl ?_
  have hp' : p.length ≤ 9223372036854775807 := hp
  cbv
  repeat' first | (show Stp _; exfalso; first | omega | (exact h ‹_›) | (exact absurd ‹_› h) | (exact Bool.false_ne_true (h.symm.trans (show _ = true by assumption)))) | (refine Stp.mk ?_; cbv) | (refine Gen.mk fun r hr => ?_; (try simp only [Dat.ok, Dat.dec, Leaf.ok, Leaf.val, Z0, Z1, val_sl, val_nil] at hr); cbv) | exact trivial | rfl | refine Both.mk ?_ ?_ | (refine Imp.mk fun h => ?_; (try dsimp only at h); (try simp only [nc, Int.toNat_natCast, ne_eq, zz] at h); (try simp only [nc] at h)) | refine Ob.mk ?_ ?_ | refine Chk.mk (by kernel_rfl) ?_ | refine Eq'.mk ?_ | (refine AllN.mk fun i hi => ?_; cbv) | (refine AllC.mk fun c hc hcm => ?_; (try dsimp only at hc); cbv) | (refine AllS.mk fun r hr => ?_; (try simp only [Dat.ok, Dat.dec, Leaf.ok, Leaf.val, Z0, Z1, val_sl] at hr); cbv)
  all_goals ((try dsimp only at *); (try simp only [nc, Int.toNat_natCast, ne_eq, zz] at *); (try simp only [nc] at *))
  all_goals try simp only [Dat.dec, Leaf.val, Z0, Z1, val_sl] at *
  all_goals try first
    | exact ⟨⟨rfl, fun i _ => Dat.hok _⟩, hp'⟩
    | (unfold printV; rw [if_neg (by assumption)]; done)
    | (unfold printV; rw [if_neg (by assumption)]; rfl)
  have hc : checkP p = 0 := by assumption
  have C := check_iff.1 hc
  have hpl := C.1
  have hi9 : ∀ i ∈ p, insIn i := fun i hi => right_in (by omega) (C.2 i hi)
  have eP : printV p = (linesV p, 0) := if_pos hc
  have g1 : ∀ j, j < p.length → insIn (p.getD j Dat.d0) ∧ 1 ≤ (p.getD j Dat.d0).code ∧ (p.getD j Dat.d0).code ≤ 11 := fun j hj => by
    have hr := check_at hc hj
    exact ⟨right_in (by omega) hr, (rightB_all (by omega) hr).1⟩
  have g2 : ∀ j, j < p.length → 0 < (lineV (p.getD j Dat.d0)).size ∧ (lineV (p.getD j Dat.d0)).size ≤ 70 := fun j hj => lineV_size (g1 j hj).1
  have g3 : ∀ j, j < p.length → (joinV (wordsV (shapesV.getD (p.getD j Dat.d0).code.toNat Dat.d0) (p.getD j Dat.d0)) spB).size + 1 ≤ 70 := fun j hj => by
    have := (g2 j hj).2
    have e : (lineV (p.getD j Dat.d0)).size = (joinV (wordsV (shapesV.getD (p.getD j Dat.d0).code.toNat Dat.d0) (p.getD j Dat.d0)) spB).size + 1 := ByteArray.size_append ..
    omega
  have g4 : ∀ j, j ≤ p.length → (linesV (p.take j)).size ≤ 7000 ∧ (0 < j → 0 < (linesV (p.take j)).size) := fun j hj => by
    have q := linesV_size (p := p.take j) fun i hi => hi9 i (List.mem_of_mem_take hi)
    rw [List.length_take] at q
    refine ⟨by omega, fun h => q.2 fun e => ?_⟩
    have := congrArg List.length e
    rw [List.length_take, List.length_nil] at this
    omega
  have g5 : ∀ j, j < p.length → linesV (p.take (j + 1)) = linesV (p.take j) ++ lineV (p.getD j Dat.d0) := fun j hj => by rw [take_snI hj, linesV_snoc]
  have g6 : 0 < p.length → linesV (p.take 1) = lineV (p.getD 0 Dat.d0) := fun h => by
    rw [g5 0 h]
    show (⟨#[]⟩ : ByteArray) ++ _ = _
    rw [show (⟨#[]⟩ : ByteArray) = ByteArray.empty from rfl, ByteArray.empty_append]
  have sl : shapesV.length = 12 := rfl
  by_cases p0 : p.length = 0
  · refine LoopVC.un 1 ?_
    cbv
    repeat' first | (show Stp _; exfalso; first | omega | (exact h ‹_›) | (exact absurd ‹_› h) | (exact Bool.false_ne_true (h.symm.trans (show _ = true by assumption)))) | (refine Stp.mk ?_; cbv) | (refine Gen.mk fun r hr => ?_; (try simp only [Dat.ok, Dat.dec, Leaf.ok, Leaf.val, Z0, Z1, val_sl, val_nil] at hr); cbv) | exact trivial | rfl | refine Both.mk ?_ ?_ | (refine Imp.mk fun h => ?_; (try dsimp only at h); (try simp only [nc, Int.toNat_natCast, ne_eq, zz] at h); (try simp only [nc] at h)) | refine Ob.mk ?_ ?_ | refine Chk.mk (by kernel_rfl) ?_ | refine Eq'.mk ?_ | (refine AllN.mk fun i hi => ?_; cbv) | (refine AllC.mk fun c hc hcm => ?_; (try dsimp only at hc); cbv) | (refine AllS.mk fun r hr => ?_; (try simp only [Dat.ok, Dat.dec, Leaf.ok, Leaf.val, Z0, Z1, val_sl] at hr); cbv)
    all_goals ((try dsimp only at *); (try simp only [nc, Int.toNat_natCast, ne_eq, zz] at *); (try simp only [nc] at *))
    all_goals (
      refine StC.fresh rfl ?_ ?_ ?_
      · cbv
        repeat' first | (refine Stp.mk ?_; cbv) | (refine Gen.mk fun r hr => ?_; (try simp only [Dat.ok, Dat.dec, Leaf.ok, Leaf.val, Z0, Z1, val_sl, val_nil] at hr); cbv) | exact trivial | rfl | refine Both.mk ?_ ?_ | (refine Imp.mk fun h => ?_; (try dsimp only at h); (try simp only [nc, Int.toNat_natCast, ne_eq, zz] at h); (try simp only [nc] at h)) | refine Ob.mk ?_ ?_ | refine Chk.mk (by kernel_rfl) ?_ | refine Eq'.mk ?_ | (refine AllN.mk fun i hi => ?_; cbv) | (refine AllC.mk fun c hc hcm => ?_; (try dsimp only at hc); cbv) | (refine AllS.mk fun r hr => ?_; (try simp only [Dat.ok, Dat.dec, Leaf.ok, Leaf.val, Z0, Z1, val_sl] at hr); cbv)
        all_goals fail
      · cbv
        repeat' first | (refine Stp.mk ?_; cbv) | (refine Gen.mk fun r hr => ?_; (try simp only [Dat.ok, Dat.dec, Leaf.ok, Leaf.val, Z0, Z1, val_sl, val_nil] at hr); cbv) | exact trivial | rfl | refine Both.mk ?_ ?_ | (refine Imp.mk fun h => ?_; (try dsimp only at h); (try simp only [nc, Int.toNat_natCast, ne_eq, zz] at h); (try simp only [nc] at h)) | refine Ob.mk ?_ ?_ | refine Chk.mk (by kernel_rfl) ?_ | refine Eq'.mk ?_ | (refine AllN.mk fun i hi => ?_; cbv) | (refine AllC.mk fun c hc hcm => ?_; (try dsimp only at hc); cbv) | (refine AllS.mk fun r hr => ?_; (try simp only [Dat.ok, Dat.dec, Leaf.ok, Leaf.val, Z0, Z1, val_sl] at hr); cbv)
        all_goals first
          | (have hi2 : i < 2 := hi
             rcases i with _ | _ | i
             all_goals first
               | omega
               | (cbv
                  repeat' first | (refine Stp.mk ?_; cbv) | (refine Gen.mk fun r hr => ?_; (try simp only [Dat.ok, Dat.dec, Leaf.ok, Leaf.val, Z0, Z1, val_sl, val_nil] at hr); cbv) | exact trivial | rfl | refine Both.mk ?_ ?_ | (refine Imp.mk fun h => ?_; (try dsimp only at h); (try simp only [nc, Int.toNat_natCast, ne_eq, zz] at h); (try simp only [nc] at h)) | refine Ob.mk ?_ ?_ | refine Chk.mk (by kernel_rfl) ?_ | refine Eq'.mk ?_ | (refine AllN.mk fun i hi => ?_; cbv) | (refine AllC.mk fun c hc hcm => ?_; (try dsimp only at hc); cbv) | (refine AllS.mk fun r hr => ?_; (try simp only [Dat.ok, Dat.dec, Leaf.ok, Leaf.val, Z0, Z1, val_sl] at hr); cbv)))
          | fail
      · cbv
        repeat' first | (refine Stp.mk ?_; cbv) | (refine Gen.mk fun r hr => ?_; (try simp only [Dat.ok, Dat.dec, Leaf.ok, Leaf.val, Z0, Z1, val_sl, val_nil] at hr); cbv) | exact trivial | rfl | refine Both.mk ?_ ?_ | (refine Imp.mk fun h => ?_; (try dsimp only at h); (try simp only [nc, Int.toNat_natCast, ne_eq, zz] at h); (try simp only [nc] at h)) | refine Ob.mk ?_ ?_ | refine Chk.mk (by kernel_rfl) ?_ | refine Eq'.mk ?_ | (refine AllN.mk fun i hi => ?_; cbv) | (refine AllC.mk fun c hc hcm => ?_; (try dsimp only at hc); cbv) | (refine AllS.mk fun r hr => ?_; (try simp only [Dat.ok, Dat.dec, Leaf.ok, Leaf.val, Z0, Z1, val_sl] at hr); cbv)
        all_goals (have q0 : p = [] := List.length_eq_zero_iff.1 p0; subst q0; first | rfl | exact hc | exact hc.symm | (rw [eP]; done) | (rw [eP]; rfl)))
  refine LoopVC.frameR [8, 17, 18] (PrX p) (fun x => [(17, .i .i64 fun _ => x.k)]) (fun x => [(0, bdK x.k fun _ => (linesV (p.take x.k)).size), (1, vcK x.k fun _ => u8L (linesV (p.take x.k)))]) (fun x => p.length - x.k) ⟨0, Nat.zero_le _⟩ ?_ ?_ fun ⟨k, hk⟩ => ?_
  · cbv
    repeat' first | (refine Stp.mk ?_; cbv) | (refine Gen.mk fun r hr => ?_; (try simp only [Dat.ok, Dat.dec, Leaf.ok, Leaf.val, Z0, Z1, val_sl, val_nil] at hr); cbv) | exact trivial | rfl | refine Both.mk ?_ ?_ | (refine Imp.mk fun h => ?_; (try dsimp only at h); (try simp only [nc, Int.toNat_natCast, ne_eq, zz] at h); (try simp only [nc] at h)) | refine Ob.mk ?_ ?_ | refine Chk.mk (by kernel_rfl) ?_ | refine Eq'.mk ?_ | (refine AllN.mk fun i hi => ?_; cbv) | (refine AllC.mk fun c hc hcm => ?_; (try dsimp only at hc); cbv) | (refine AllS.mk fun r hr => ?_; (try simp only [Dat.ok, Dat.dec, Leaf.ok, Leaf.val, Z0, Z1, val_sl] at hr); cbv)
    all_goals fail
  · cbv
    repeat' first | (refine Stp.mk ?_; cbv) | (refine Gen.mk fun r hr => ?_; (try simp only [Dat.ok, Dat.dec, Leaf.ok, Leaf.val, Z0, Z1, val_sl, val_nil] at hr); cbv) | exact trivial | rfl | refine Both.mk ?_ ?_ | (refine Imp.mk fun h => ?_; (try dsimp only at h); (try simp only [nc, Int.toNat_natCast, ne_eq, zz] at h); (try simp only [nc] at h)) | refine Ob.mk ?_ ?_ | refine Chk.mk (by kernel_rfl) ?_ | refine Eq'.mk ?_ | (refine AllN.mk fun i hi => ?_; cbv) | (refine AllC.mk fun c hc hcm => ?_; (try dsimp only at hc); cbv) | (refine AllS.mk fun r hr => ?_; (try simp only [Dat.ok, Dat.dec, Leaf.ok, Leaf.val, Z0, Z1, val_sl] at hr); cbv)
    all_goals first
      | (have hi2 : i < 2 := hi
         rcases i with _ | _ | i
         all_goals first
           | omega
           | (cbv
              repeat' first | (refine Stp.mk ?_; cbv) | (refine Gen.mk fun r hr => ?_; (try simp only [Dat.ok, Dat.dec, Leaf.ok, Leaf.val, Z0, Z1, val_sl, val_nil] at hr); cbv) | exact trivial | rfl | refine Both.mk ?_ ?_ | (refine Imp.mk fun h => ?_; (try dsimp only at h); (try simp only [nc, Int.toNat_natCast, ne_eq, zz] at h); (try simp only [nc] at h)) | refine Ob.mk ?_ ?_ | refine Chk.mk (by kernel_rfl) ?_ | refine Eq'.mk ?_ | (refine AllN.mk fun i hi => ?_; cbv) | (refine AllC.mk fun c hc hcm => ?_; (try dsimp only at hc); cbv) | (refine AllS.mk fun r hr => ?_; (try simp only [Dat.ok, Dat.dec, Leaf.ok, Leaf.val, Z0, Z1, val_sl] at hr); cbv)))
      | fail
  have hk9 : k ≤ p.length := hk
  cases k with
  | zero =>
    have h1 : 0 < p.length := by omega
    cbv
    repeat' first | (show Stp _; exfalso; first | omega | (exact h ‹_›) | (exact absurd ‹_› h) | (exact Bool.false_ne_true (h.symm.trans (show _ = true by assumption)))) | (refine Stp.mk ?_; cbv) | (refine Gen.mk fun r hr => ?_; (try simp only [Dat.ok, Dat.dec, Leaf.ok, Leaf.val, Z0, Z1, val_sl, val_nil] at hr); cbv) | exact trivial | rfl | refine Both.mk ?_ ?_ | (refine Imp.mk fun h => ?_; (try dsimp only at h); (try simp only [nc, Int.toNat_natCast, ne_eq, zz] at h); (try simp only [nc] at h)) | refine Ob.mk ?_ ?_ | refine Chk.mk (by kernel_rfl) ?_ | refine Eq'.mk ?_ | (refine AllN.mk fun i hi => ?_; cbv) | (refine AllC.mk fun c hc hcm => ?_; (try dsimp only at hc); cbv) | (refine AllS.mk fun r hr => ?_; (try simp only [Dat.ok, Dat.dec, Leaf.ok, Leaf.val, Z0, Z1, val_sl] at hr); cbv)
    all_goals ((try dsimp only at *); (try simp only [nc, Int.toNat_natCast, ne_eq, zz] at *); (try simp only [nc] at *))
    all_goals try rw [nc] at *
    all_goals try simp only [Dat.dec, Leaf.val, Z0, Z1, val_sl] at *
    all_goals first
      | exact ⟨by omega, by omega⟩
      | exact ⟨by have := g1 0 h1; omega, by have := g1 0 h1; omega⟩
      | exact ⟨Dat.hok fun _ => shapesV.getD (p.getD 0 Dat.d0).code.toNat Dat.d0, Dat.hok fun _ => p.getD 0 Dat.d0, (g1 0 h1).1⟩
      | exact ⟨⟨rfl, fun i _ => Dat.hok _⟩, show _ ≤ _ by have := wordsV_len (shapesV.getD (p.getD 0 Dat.d0).code.toNat Dat.d0) (p.getD 0 Dat.d0); exact Nat.le_trans this (by decide), Nat.le_trans (Nat.le_of_succ_le (g3 0 h1)) (by decide)⟩
      | exact Nat.le_trans (g3 0 h1) (by decide)
      | (exfalso; omega)
      | (refine WrC.fresh (lineV (p.getD 0 Dat.d0)) (g2 0 h1).1 (by have := g2 0 h1; omega) rfl ?_ ?_ ?_
         · cbv
           repeat' first | (refine Stp.mk ?_; cbv) | (refine Gen.mk fun r hr => ?_; (try simp only [Dat.ok, Dat.dec, Leaf.ok, Leaf.val, Z0, Z1, val_sl, val_nil] at hr); cbv) | exact trivial | rfl | refine Both.mk ?_ ?_ | (refine Imp.mk fun h => ?_; (try dsimp only at h); (try simp only [nc, Int.toNat_natCast, ne_eq, zz] at h); (try simp only [nc] at h)) | refine Ob.mk ?_ ?_ | refine Chk.mk (by kernel_rfl) ?_ | refine Eq'.mk ?_ | (refine AllN.mk fun i hi => ?_; cbv) | (refine AllC.mk fun c hc hcm => ?_; (try dsimp only at hc); cbv) | (refine AllS.mk fun r hr => ?_; (try simp only [Dat.ok, Dat.dec, Leaf.ok, Leaf.val, Z0, Z1, val_sl] at hr); cbv)
           all_goals fail
         · cbv
           repeat' first | (refine Stp.mk ?_; cbv) | (refine Gen.mk fun r hr => ?_; (try simp only [Dat.ok, Dat.dec, Leaf.ok, Leaf.val, Z0, Z1, val_sl, val_nil] at hr); cbv) | exact trivial | rfl | refine Both.mk ?_ ?_ | (refine Imp.mk fun h => ?_; (try dsimp only at h); (try simp only [nc, Int.toNat_natCast, ne_eq, zz] at h); (try simp only [nc] at h)) | refine Ob.mk ?_ ?_ | refine Chk.mk (by kernel_rfl) ?_ | refine Eq'.mk ?_ | (refine AllN.mk fun i hi => ?_; cbv) | (refine AllC.mk fun c hc hcm => ?_; (try dsimp only at hc); cbv) | (refine AllS.mk fun r hr => ?_; (try simp only [Dat.ok, Dat.dec, Leaf.ok, Leaf.val, Z0, Z1, val_sl] at hr); cbv)
           all_goals first
             | (have hi2 : i < 2 := hi
                rcases i with _ | _ | i
                all_goals first
                  | omega
                  | (cbv
                     repeat' first | (refine Stp.mk ?_; cbv) | (refine Gen.mk fun r hr => ?_; (try simp only [Dat.ok, Dat.dec, Leaf.ok, Leaf.val, Z0, Z1, val_sl, val_nil] at hr); cbv) | exact trivial | rfl | refine Both.mk ?_ ?_ | (refine Imp.mk fun h => ?_; (try dsimp only at h); (try simp only [nc, Int.toNat_natCast, ne_eq, zz] at h); (try simp only [nc] at h)) | refine Ob.mk ?_ ?_ | refine Chk.mk (by kernel_rfl) ?_ | refine Eq'.mk ?_ | (refine AllN.mk fun i hi => ?_; cbv) | (refine AllC.mk fun c hc hcm => ?_; (try dsimp only at hc); cbv) | (refine AllS.mk fun r hr => ?_; (try simp only [Dat.ok, Dat.dec, Leaf.ok, Leaf.val, Z0, Z1, val_sl] at hr); cbv)))
             | fail
         · cbv
           repeat' first | (refine Stp.mk ?_; cbv) | (refine Gen.mk fun r hr => ?_; (try simp only [Dat.ok, Dat.dec, Leaf.ok, Leaf.val, Z0, Z1, val_sl, val_nil] at hr); cbv) | exact trivial | rfl | refine Both.mk ?_ ?_ | (refine Imp.mk fun h => ?_; (try dsimp only at h); (try simp only [nc, Int.toNat_natCast, ne_eq, zz] at h); (try simp only [nc] at h)) | refine Ob.mk ?_ ?_ | refine Chk.mk (by kernel_rfl) ?_ | refine Eq'.mk ?_ | (refine AllN.mk fun i hi => ?_; cbv) | (refine AllC.mk fun c hc hcm => ?_; (try dsimp only at hc); cbv) | (refine AllS.mk fun r hr => ?_; (try simp only [Dat.ok, Dat.dec, Leaf.ok, Leaf.val, Z0, Z1, val_sl] at hr); cbv)
           all_goals first
             | (show InR (((0 : Nat) : Int) + 1); unfold InR; omega)
             | (refine ⟨⟨1, h1⟩, [(0, 0), (1, 3)], rfl, rfl, ?_, ?_, by show p.length - 1 < p.length - 0; omega⟩
                · cbv
                  repeat' first | (refine Stp.mk ?_; cbv) | (refine Gen.mk fun r hr => ?_; (try simp only [Dat.ok, Dat.dec, Leaf.ok, Leaf.val, Z0, Z1, val_sl, val_nil] at hr); cbv) | exact trivial | rfl | refine Both.mk ?_ ?_ | (refine Imp.mk fun h => ?_; (try dsimp only at h); (try simp only [nc, Int.toNat_natCast, ne_eq, zz] at h); (try simp only [nc] at h)) | refine Ob.mk ?_ ?_ | refine Chk.mk (by kernel_rfl) ?_ | refine Eq'.mk ?_ | (refine AllN.mk fun i hi => ?_; cbv) | (refine AllC.mk fun c hc hcm => ?_; (try dsimp only at hc); cbv) | (refine AllS.mk fun r hr => ?_; (try simp only [Dat.ok, Dat.dec, Leaf.ok, Leaf.val, Z0, Z1, val_sl] at hr); cbv)
                · cbv
                  repeat' first | (refine Stp.mk ?_; cbv) | (refine Gen.mk fun r hr => ?_; (try simp only [Dat.ok, Dat.dec, Leaf.ok, Leaf.val, Z0, Z1, val_sl, val_nil] at hr); cbv) | exact trivial | rfl | refine Both.mk ?_ ?_ | (refine Imp.mk fun h => ?_; (try dsimp only at h); (try simp only [nc, Int.toNat_natCast, ne_eq, zz] at h); (try simp only [nc] at h)) | refine Ob.mk ?_ ?_ | refine Chk.mk (by kernel_rfl) ?_ | refine Eq'.mk ?_ | (refine AllN.mk fun i hi => ?_; cbv) | (refine AllC.mk fun c hc hcm => ?_; (try dsimp only at hc); cbv) | (refine AllS.mk fun r hr => ?_; (try simp only [Dat.ok, Dat.dec, Leaf.ok, Leaf.val, Z0, Z1, val_sl] at hr); cbv)
                  all_goals first
                    | (rw [g6 h1]; done)
                    | (rw [g6 h1]; rfl)
                    | (rw [g6 h1, u8_len]; done)
                    | fail)
             | fail)
      | fail
  | succ k =>
    cbv
    repeat' first | (show Stp _; exfalso; first | omega | (exact h ‹_›) | (exact absurd ‹_› h) | (exact Bool.false_ne_true (h.symm.trans (show _ = true by assumption)))) | (refine Stp.mk ?_; cbv) | (refine Gen.mk fun r hr => ?_; (try simp only [Dat.ok, Dat.dec, Leaf.ok, Leaf.val, Z0, Z1, val_sl, val_nil] at hr); cbv) | exact trivial | rfl | refine Both.mk ?_ ?_ | (refine Imp.mk fun h => ?_; (try dsimp only at h); (try simp only [nc, Int.toNat_natCast, ne_eq, zz] at h); (try simp only [nc] at h)) | refine Ob.mk ?_ ?_ | refine Chk.mk (by kernel_rfl) ?_ | refine Eq'.mk ?_ | (refine AllN.mk fun i hi => ?_; cbv) | (refine AllC.mk fun c hc hcm => ?_; (try dsimp only at hc); cbv) | (refine AllS.mk fun r hr => ?_; (try simp only [Dat.ok, Dat.dec, Leaf.ok, Leaf.val, Z0, Z1, val_sl] at hr); cbv)
    all_goals ((try dsimp only at *); (try simp only [nc, Int.toNat_natCast, ne_eq, zz] at *); (try simp only [nc] at *))
    all_goals try rw [nc] at *
    all_goals try simp only [Dat.dec, Leaf.val, Z0, Z1, val_sl] at *
    all_goals first
      | exact ⟨by omega, by omega⟩
      | (have h1 : k + 1 < p.length := by omega
         first
           | exact ⟨by have := g1 (k + 1) h1; omega, by have := g1 (k + 1) h1; omega⟩
           | exact ⟨Dat.hok fun _ => shapesV.getD (p.getD (k + 1) Dat.d0).code.toNat Dat.d0, Dat.hok fun _ => p.getD (k + 1) Dat.d0, (g1 (k + 1) h1).1⟩
           | exact ⟨⟨rfl, fun i _ => Dat.hok _⟩, show _ ≤ _ by have := wordsV_len (shapesV.getD (p.getD (k + 1) Dat.d0).code.toNat Dat.d0) (p.getD (k + 1) Dat.d0); exact Nat.le_trans this (by decide), Nat.le_trans (Nat.le_of_succ_le (g3 (k + 1) h1)) (by decide)⟩
           | exact Nat.le_trans (g3 (k + 1) h1) (by decide)
           | (refine WrC.used (linesV (p.take (k + 1))) (lineV (p.getD (k + 1) Dat.d0)) ((g4 (k + 1) (by omega)).2 (by omega)) (g2 (k + 1) h1).1 (by have := g2 (k + 1) h1; have := g4 (k + 1) (by omega); omega) rfl ?_ ?_ ?_
              · cbv
                repeat' first | (refine Stp.mk ?_; cbv) | (refine Gen.mk fun r hr => ?_; (try simp only [Dat.ok, Dat.dec, Leaf.ok, Leaf.val, Z0, Z1, val_sl, val_nil] at hr); cbv) | exact trivial | rfl | refine Both.mk ?_ ?_ | (refine Imp.mk fun h => ?_; (try dsimp only at h); (try simp only [nc, Int.toNat_natCast, ne_eq, zz] at h); (try simp only [nc] at h)) | refine Ob.mk ?_ ?_ | refine Chk.mk (by kernel_rfl) ?_ | refine Eq'.mk ?_ | (refine AllN.mk fun i hi => ?_; cbv) | (refine AllC.mk fun c hc hcm => ?_; (try dsimp only at hc); cbv) | (refine AllS.mk fun r hr => ?_; (try simp only [Dat.ok, Dat.dec, Leaf.ok, Leaf.val, Z0, Z1, val_sl] at hr); cbv)
                all_goals fail
              · cbv
                repeat' first | (refine Stp.mk ?_; cbv) | (refine Gen.mk fun r hr => ?_; (try simp only [Dat.ok, Dat.dec, Leaf.ok, Leaf.val, Z0, Z1, val_sl, val_nil] at hr); cbv) | exact trivial | rfl | refine Both.mk ?_ ?_ | (refine Imp.mk fun h => ?_; (try dsimp only at h); (try simp only [nc, Int.toNat_natCast, ne_eq, zz] at h); (try simp only [nc] at h)) | refine Ob.mk ?_ ?_ | refine Chk.mk (by kernel_rfl) ?_ | refine Eq'.mk ?_ | (refine AllN.mk fun i hi => ?_; cbv) | (refine AllC.mk fun c hc hcm => ?_; (try dsimp only at hc); cbv) | (refine AllS.mk fun r hr => ?_; (try simp only [Dat.ok, Dat.dec, Leaf.ok, Leaf.val, Z0, Z1, val_sl] at hr); cbv)
                all_goals fail
              · cbv
                repeat' first | (refine Stp.mk ?_; cbv) | (refine Gen.mk fun r hr => ?_; (try simp only [Dat.ok, Dat.dec, Leaf.ok, Leaf.val, Z0, Z1, val_sl, val_nil] at hr); cbv) | exact trivial | rfl | refine Both.mk ?_ ?_ | (refine Imp.mk fun h => ?_; (try dsimp only at h); (try simp only [nc, Int.toNat_natCast, ne_eq, zz] at h); (try simp only [nc] at h)) | refine Ob.mk ?_ ?_ | refine Chk.mk (by kernel_rfl) ?_ | refine Eq'.mk ?_ | (refine AllN.mk fun i hi => ?_; cbv) | (refine AllC.mk fun c hc hcm => ?_; (try dsimp only at hc); cbv) | (refine AllS.mk fun r hr => ?_; (try simp only [Dat.ok, Dat.dec, Leaf.ok, Leaf.val, Z0, Z1, val_sl] at hr); cbv)
                all_goals first
                  | (show InR (((k + 1 : Nat) : Int) + 1); unfold InR; omega)
                  | (refine ⟨⟨k + 2, h1⟩, [(0, 0), (1, 1)], rfl, rfl, ?_, ?_, by show p.length - (k + 2) < p.length - (k + 1); omega⟩
                     · cbv
                       repeat' first | (refine Stp.mk ?_; cbv) | (refine Gen.mk fun r hr => ?_; (try simp only [Dat.ok, Dat.dec, Leaf.ok, Leaf.val, Z0, Z1, val_sl, val_nil] at hr); cbv) | exact trivial | rfl | refine Both.mk ?_ ?_ | (refine Imp.mk fun h => ?_; (try dsimp only at h); (try simp only [nc, Int.toNat_natCast, ne_eq, zz] at h); (try simp only [nc] at h)) | refine Ob.mk ?_ ?_ | refine Chk.mk (by kernel_rfl) ?_ | refine Eq'.mk ?_ | (refine AllN.mk fun i hi => ?_; cbv) | (refine AllC.mk fun c hc hcm => ?_; (try dsimp only at hc); cbv) | (refine AllS.mk fun r hr => ?_; (try simp only [Dat.ok, Dat.dec, Leaf.ok, Leaf.val, Z0, Z1, val_sl] at hr); cbv)
                       all_goals fail
                     · cbv
                       repeat' first | (refine Stp.mk ?_; cbv) | (refine Gen.mk fun r hr => ?_; (try simp only [Dat.ok, Dat.dec, Leaf.ok, Leaf.val, Z0, Z1, val_sl, val_nil] at hr); cbv) | exact trivial | rfl | refine Both.mk ?_ ?_ | (refine Imp.mk fun h => ?_; (try dsimp only at h); (try simp only [nc, Int.toNat_natCast, ne_eq, zz] at h); (try simp only [nc] at h)) | refine Ob.mk ?_ ?_ | refine Chk.mk (by kernel_rfl) ?_ | refine Eq'.mk ?_ | (refine AllN.mk fun i hi => ?_; cbv) | (refine AllC.mk fun c hc hcm => ?_; (try dsimp only at hc); cbv) | (refine AllS.mk fun r hr => ?_; (try simp only [Dat.ok, Dat.dec, Leaf.ok, Leaf.val, Z0, Z1, val_sl] at hr); cbv)
                       all_goals first
                         | (rw [g5 (k + 1) h1]; done)
                         | (rw [g5 (k + 1) h1]; rfl)
                         | fail)
                  | fail))
      | (have h2 : k + 1 = p.length := by omega
         have e2 : p.take (k + 1) = p := List.take_of_length_le (by omega)
         refine StC.used (linesV (p.take (k + 1))) ((g4 (k + 1) (by omega)).2 (by omega)) rfl ?_ ?_ ?_
         · cbv
           repeat' first | (refine Stp.mk ?_; cbv) | (refine Gen.mk fun r hr => ?_; (try simp only [Dat.ok, Dat.dec, Leaf.ok, Leaf.val, Z0, Z1, val_sl, val_nil] at hr); cbv) | exact trivial | rfl | refine Both.mk ?_ ?_ | (refine Imp.mk fun h => ?_; (try dsimp only at h); (try simp only [nc, Int.toNat_natCast, ne_eq, zz] at h); (try simp only [nc] at h)) | refine Ob.mk ?_ ?_ | refine Chk.mk (by kernel_rfl) ?_ | refine Eq'.mk ?_ | (refine AllN.mk fun i hi => ?_; cbv) | (refine AllC.mk fun c hc hcm => ?_; (try dsimp only at hc); cbv) | (refine AllS.mk fun r hr => ?_; (try simp only [Dat.ok, Dat.dec, Leaf.ok, Leaf.val, Z0, Z1, val_sl] at hr); cbv)
           all_goals fail
         · cbv
           repeat' first | (refine Stp.mk ?_; cbv) | (refine Gen.mk fun r hr => ?_; (try simp only [Dat.ok, Dat.dec, Leaf.ok, Leaf.val, Z0, Z1, val_sl, val_nil] at hr); cbv) | exact trivial | rfl | refine Both.mk ?_ ?_ | (refine Imp.mk fun h => ?_; (try dsimp only at h); (try simp only [nc, Int.toNat_natCast, ne_eq, zz] at h); (try simp only [nc] at h)) | refine Ob.mk ?_ ?_ | refine Chk.mk (by kernel_rfl) ?_ | refine Eq'.mk ?_ | (refine AllN.mk fun i hi => ?_; cbv) | (refine AllC.mk fun c hc hcm => ?_; (try dsimp only at hc); cbv) | (refine AllS.mk fun r hr => ?_; (try simp only [Dat.ok, Dat.dec, Leaf.ok, Leaf.val, Z0, Z1, val_sl] at hr); cbv)
           all_goals fail
         · cbv
           repeat' first | (refine Stp.mk ?_; cbv) | (refine Gen.mk fun r hr => ?_; (try simp only [Dat.ok, Dat.dec, Leaf.ok, Leaf.val, Z0, Z1, val_sl, val_nil] at hr); cbv) | exact trivial | rfl | refine Both.mk ?_ ?_ | (refine Imp.mk fun h => ?_; (try dsimp only at h); (try simp only [nc, Int.toNat_natCast, ne_eq, zz] at h); (try simp only [nc] at h)) | refine Ob.mk ?_ ?_ | refine Chk.mk (by kernel_rfl) ?_ | refine Eq'.mk ?_ | (refine AllN.mk fun i hi => ?_; cbv) | (refine AllC.mk fun c hc hcm => ?_; (try dsimp only at hc); cbv) | (refine AllS.mk fun r hr => ?_; (try simp only [Dat.ok, Dat.dec, Leaf.ok, Leaf.val, Z0, Z1, val_sl] at hr); cbv)
           all_goals first
             | (rw [eP, e2]; done)
             | (rw [eP]; done)
             | (rw [eP]; rfl)
             | fail)
      | fail
theorem printC_ok : PcOk Tryd.prog 6 (detPC printC_D) := det_okA fun A p r h hp0 => by
  unfold printC_D at h
  split at h
  · rename_i p
    cases h
    obtain ⟨g0, hp⟩ := hp0
    exact ⟨rfl, FnOk.pre (A' := [Leaf.av fun _ => (Leaf.val p : (List Ins))]) (printC_vc (Leaf.val p) hp) (.mk (Leaf.hle _ g0) (trivial))⟩
  · cases h

end Go.Proofs.YtebiaihhpflpgaaDoor
