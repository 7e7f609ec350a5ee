/- Plans told and numbers read: conf.row, conf.Write, conf.numbers, walked. -/
import Derived.Test.YtnjngpjkhddnfaaGreatDoorConf1
import Derived.Test.YtnjngpjkhddnfaaGreatDoorStrU
set_option linter.all false
namespace Go.Proofs.YtnjngpjkhddnfaaGreatDoor
open Go Go.Abs

def bzl (l : List UInt8) : ByteArray := ⟨l.toArray⟩
theorem getD_mem' {α : Type} [Dat α] {l : List α} {k : Nat} (hk : k < l.length) : l.getD k Dat.d0 ∈ l := by
  rw [List.getD_eq_getElem?_getD, List.getElem?_eq_getElem hk]
  exact List.getElem_mem hk
def frameB : ByteArray := bzl [102, 114, 97, 109, 101]
def wantB0 : ByteArray := bzl [119, 97, 110, 116]
def jobB : ByteArray := bzl [106, 111, 98]
def flatB {α : Type} (f : α → ByteArray) : List α → ByteArray
  | [] => .empty
  | x :: r => f x ++ flatB f r
theorem flat_app {α : Type} {f : α → ByteArray} {a b : List α} : flatB f (a ++ b) = flatB f a ++ flatB f b := by
  induction a with
  | nil => exact ByteArray.empty_append.symm
  | cons x r ih => rw [List.cons_append, flatB, flatB, ih, ByteArray.append_assoc]
theorem flat_take {α : Type} [Dat α] {f : α → ByteArray} {l : List α} {k : Nat} (hk : k < l.length) : flatB f (l.take (k + 1)) = flatB f (l.take k) ++ f (l.getD k Dat.d0) := by
  rw [List.take_add_one, List.getElem?_eq_getElem hk, flat_app, List.getD_eq_getElem?_getD, List.getElem?_eq_getElem hk]
  show _ ++ (f l[k] ++ .empty) = _
  rw [ByteArray.append_empty]; rfl
def okNu (s : ByteArray) : Bool := okU s && (decide (s.size ≤ 9) && decide (decB (numU s) = s))
def numsV (w : List ByteArray) (n : Int) : List Int × Bool := if w.all okNu = true then (w.map numU, decide ((w.length : Int) = n)) else ([], false)
theorem parseM_le {M : Nat} : ∀ {l : List UInt8} {acc v : Nat}, acc ≤ M → Lib.parseUintM M acc l = .ok v → v ≤ M
  | [], acc, v, h, e => by cases e; exact h
  | c :: r, acc, v, h, e => by
    rw [Lib.parseUintM] at e
    split at e
    · split at e
      · cases e
      · split at e
        · cases e
        · exact parseM_le (by omega) e
    · cases e
theorem numU_in (s : ByteArray) : 0 ≤ numU s ∧ numU s ≤ 4294967295 := by
  unfold numU
  cases h : Lib.parseUintB 32 s.data.toList with
  | ok v =>
    have : v ≤ 4294967295 := by
      unfold Lib.parseUintB at h
      split at h
      · cases h
      · exact parseM_le (Nat.zero_le _) h
    dsimp only; omega
  | range => exact ⟨by decide, by decide⟩
  | _ => exact ⟨by decide, by decide⟩
theorem nums_len {w : List ByteArray} {k : Nat} (hk : k < w.length) : ((w.take k).map numU).length + 1 = ((w.take (k + 1)).map numU).length := by
  rw [List.length_map, List.length_map, List.length_take, List.length_take]; omega
theorem nums_next {w : List ByteArray} {k i : Nat} (hk : k < w.length) (hi : i < ((w.take k).map numU).length + 1) : (bif decide (i < ((w.take k).map numU).length) then ((w.take k).map numU).getD i Dat.d0 else IntKind.i64.wrap (numU (w.getD k Dat.d0))) = ((w.take (k + 1)).map numU).getD i Dat.d0 := by
  have hu := numU_in (w.getD k Dat.d0)
  have e : (w.take (k + 1)).map numU = (w.take k).map numU ++ [numU (w.getD k Dat.d0)] := by
    rw [List.take_add_one, List.getElem?_eq_getElem hk, List.map_append, List.getD_eq_getElem?_getD, List.getElem?_eq_getElem hk]; rfl
  rw [e]
  generalize (w.take k).map numU = l at *
  rw [wrap64_in (show InR _ by unfold InR; omega)]
  by_cases h : i < l.length
  · rw [decide_eq_true h]
    show l.getD i Dat.d0 = _
    simp only [List.getD_eq_getElem?_getD]
    rw [List.getElem?_append_left h]
  · have : i = l.length := by omega
    subst this
    rw [decide_eq_false h]
    show numU _ = _
    rw [show (l ++ [numU (w.getD k Dat.d0)]).getD l.length Dat.d0 = ((l ++ [numU (w.getD k Dat.d0)])[l.length]?).getD Dat.d0 from List.getD_eq_getElem?_getD .., List.getElem?_append_right (Nat.le_refl _), Nat.sub_self]; rfl
structure NmX (w : List ByteArray) where
  k : Nat
  hk : k ≤ w.length
  ha : (w.take k).all okNu = true
noncomputable def cNm : FuncId → Con := fun f => match f with
  | 74 => pureCon (detPC parseU_D)
  | 75 => pureCon (detPC fmtU_D)
  | _ => fun _ _ _ => Bad 1001
theorem cNm_ok : ConOk Tryz.prog cNm := fun f A H K h => by
  unfold cNm at h
  split at h
  · exact ⟨⟨Tryz.f74, Tryz.func74, by kernel_rfl, by kernel_rfl⟩, pureCon_ok parseU_ok h⟩
  · exact ⟨⟨Tryz.f75, Tryz.func75, by kernel_rfl, by kernel_rfl⟩, pureCon_ok fmtU_ok h⟩
  · cases h
def dNm : FuncId → Option Dt := fun f => match f with
  | 75 => some (.c fmtU_D)
  | 74 => some (.c parseU_D)
  | _ => none
theorem dNm_ok : DetOk Tryz.prog dNm := fun f d h => by
  unfold dNm at h
  split at h
  · cases h; exact ⟨⟨Tryz.f75, Tryz.func75, by kernel_rfl, by kernel_rfl⟩, fmtU_ok⟩
  · cases h; exact ⟨⟨Tryz.f74, Tryz.func74, by kernel_rfl, by kernel_rfl⟩, parseU_ok⟩
  · cases h
def numsC_R (r : Th ((List Int) × Bool)) : AV := .tup [.own 0 fun _ => (r ()).1.length, .b fun _ => (r ()).2]
def numsC_H (r : Th ((List Int) × Bool)) : Hp := [vecO 3 fun _ => (r ()).1]
def numsC_P (w : (List ByteArray)) (n : Int) : Prop := w.length ≤ 1048576 ∧ ∀ x ∈ w, x.size ≤ 1048576
def numsC_C : PC := fun A K => match A with
  | [w, .i .i64 n] => Ob (fun _ => Leaf.ok (List ByteArray) w ∧ numsC_P (Leaf.val w) (n ())) (Gen (α := (List Int) × Bool) (fun _ => numsV (Leaf.val w) (n ())) fun r => K (numsC_R fun _ => r) (numsC_H fun _ => r))
  | _ => Bad 1002
set_option maxRecDepth 100000 in
set_option maxHeartbeats 4000000 in
theorem numsC_vc (w : (List ByteArray)) (n : Int) (hp : numsC_P w n) : FnOk Tryz.prog 53 [Leaf.av fun _ => w, .i .i64 fun _ => n] [] (outA (numsC_R fun _ => numsV w n) (numsC_H fun _ => numsV w n)) := by
  refine fn_ok envOk zl cNm_ok (draws_ok envOk zl dNm_ok mixed) (keep := [0, 1, 4, 5, 6, 8, 9, 10, 11, 12, 13, 14, 34]) Tryz.func53 rfl ?_
  obtain ⟨hp1, hp2⟩ : w.length ≤ 1048576 ∧ ∀ x ∈ w, x.size ≤ 1048576 := hp
  have fin0 : ∀ H kl, numsV w n = ([], false) → outA (numsC_R fun _ => numsV w n) (numsC_H fun _ => numsV w n) (.tup [.nil, .bc false]) H kl := fun H kl h => by
    rw [h]
    cbv
    repeat' first | (refine Stp.mk ?_; cbv) | (refine Gen.mk fun r hr => ?_; (try simp only [Dat.ok, Dat.dec, Leaf.ok, Leaf.val, Z0, Z1, Z2, Z3, Z4, Z5, Z6, Z7, val_sl, val_nil] at hr); cbv) | exact trivial | rfl | refine Both.mk ?_ ?_ | (refine Imp.mk fun h => ?_; (try dsimp only at h); (try simp only [nc, Int.toNat_natCast, ne_eq, zz] at h); (try simp only [nc] at h)) | refine Ob.mk ?_ ?_ | refine Chk.mk (by kernel_rfl) ?_ | refine Eq'.mk ?_ | (refine AllN.mk fun i hi => ?_; cbv) | (refine AllC.mk fun c hc hcm => ?_; (try dsimp only at hc); cbv) | (refine AllS.mk fun r hr => ?_; (try simp only [Dat.ok, Dat.dec, Leaf.ok, Leaf.val, Z0, Z1, Z2, Z3, Z4, Z5, Z6, Z7, val_sl] at hr); cbv)
    all_goals first | rfl | (exfalso; omega)
  have fin1 : ∀ (b : PUnit → Bool) kl, w.all okNu = true → decide ((w.length : Int) = n) = b () → outA (numsC_R fun _ => numsV w n) (numsC_H fun _ => numsV w n) (.tup [.own 0 fun _ => (w.map numU).length, .b b]) [vecO 3 fun _ => w.map numU] kl := fun b kl h hb => by
    rw [numsV, if_pos h, hb]
    cbv
    repeat' first | (refine Stp.mk ?_; cbv) | (refine Gen.mk fun r hr => ?_; (try simp only [Dat.ok, Dat.dec, Leaf.ok, Leaf.val, Z0, Z1, Z2, Z3, Z4, Z5, Z6, Z7, val_sl, val_nil] at hr); cbv) | exact trivial | rfl | refine Both.mk ?_ ?_ | (refine Imp.mk fun h => ?_; (try dsimp only at h); (try simp only [nc, Int.toNat_natCast, ne_eq, zz] at h); (try simp only [nc] at h)) | refine Ob.mk ?_ ?_ | refine Chk.mk (by kernel_rfl) ?_ | refine Eq'.mk ?_ | (refine AllN.mk fun i hi => ?_; cbv) | (refine AllC.mk fun c hc hcm => ?_; (try dsimp only at hc); cbv) | (refine AllS.mk fun r hr => ?_; (try simp only [Dat.ok, Dat.dec, Leaf.ok, Leaf.val, Z0, Z1, Z2, Z3, Z4, Z5, Z6, Z7, val_sl] at hr); cbv)
    all_goals first
      | rfl
      | (exact ⟨Nat.le_refl _, Nat.le_refl _⟩)
      | fail
  generalize outA (numsC_R fun _ => numsV w n) (numsC_H fun _ => numsV w n) = K at fin0 fin1 ⊢
  cbv
  repeat' first | (show Stp _; exfalso; first | omega | (exact h ‹_›) | (exact absurd ‹_› h) | (exact Bool.false_ne_true (h.symm.trans (show _ = true by assumption)))) | (refine Stp.mk ?_; cbv) | (refine Gen.mk fun r hr => ?_; (try simp only [Dat.ok, Dat.dec, Leaf.ok, Leaf.val, Z0, Z1, Z2, Z3, Z4, Z5, Z6, Z7, val_sl, val_nil] at hr); cbv) | exact trivial | rfl | refine Both.mk ?_ ?_ | (refine Imp.mk fun h => ?_; (try dsimp only at h); (try simp only [nc, Int.toNat_natCast, ne_eq, zz] at h); (try simp only [nc] at h)) | refine Ob.mk ?_ ?_ | refine Chk.mk (by kernel_rfl) ?_ | refine Eq'.mk ?_ | (refine AllN.mk fun i hi => ?_; cbv) | (refine AllC.mk fun c hc hcm => ?_; (try dsimp only at hc); cbv) | (refine AllS.mk fun r hr => ?_; (try simp only [Dat.ok, Dat.dec, Leaf.ok, Leaf.val, Z0, Z1, Z2, Z3, Z4, Z5, Z6, Z7, val_sl] at hr); cbv)
  all_goals ((try dsimp only at *); (try simp only [nc, Int.toNat_natCast, ne_eq, zz] at *); (try simp only [nc] at *))
  refine LoopVC.frame [4, 5, 6, 8, 9, 10, 13, 14, 34] (NmX w) (fun x => [(13, .i .i64 fun _ => x.k), (6, .own 0 fun _ => ((w.take x.k).map numU).length)]) (fun x => [(0, vecO 3 fun _ => (w.take x.k).map numU)]) [0] (fun x => w.length - x.k) ⟨0, Nat.zero_le _, rfl⟩ rfl (fun _ => rfl) ?_ ?_ fun ⟨k, hk, ha⟩ => ?_
  iterate 2
    · cbv
      repeat' first | (refine Stp.mk ?_; cbv) | (refine Gen.mk fun r hr => ?_; (try simp only [Dat.ok, Dat.dec, Leaf.ok, Leaf.val, Z0, Z1, Z2, Z3, Z4, Z5, Z6, Z7, val_sl, val_nil] at hr); cbv) | exact trivial | rfl | refine Both.mk ?_ ?_ | (refine Imp.mk fun h => ?_; (try dsimp only at h); (try simp only [nc, Int.toNat_natCast, ne_eq, zz] at h); (try simp only [nc] at h)) | refine Ob.mk ?_ ?_ | refine Chk.mk (by kernel_rfl) ?_ | refine Eq'.mk ?_ | (refine AllN.mk fun i hi => ?_; cbv) | (refine AllC.mk fun c hc hcm => ?_; (try dsimp only at hc); cbv) | (refine AllS.mk fun r hr => ?_; (try simp only [Dat.ok, Dat.dec, Leaf.ok, Leaf.val, Z0, Z1, Z2, Z3, Z4, Z5, Z6, Z7, val_sl] at hr); cbv)
  · cbv
    repeat' first | (show Stp _; exfalso; first | omega | (exact h ‹_›) | (exact absurd ‹_› h) | (exact Bool.false_ne_true (h.symm.trans (show _ = true by assumption)))) | (refine Stp.mk ?_; cbv) | (refine Gen.mk fun r hr => ?_; (try simp only [Dat.ok, Dat.dec, Leaf.ok, Leaf.val, Z0, Z1, Z2, Z3, Z4, Z5, Z6, Z7, val_sl, val_nil] at hr); cbv) | exact trivial | rfl | refine Both.mk ?_ ?_ | (refine Imp.mk fun h => ?_; (try dsimp only at h); (try simp only [nc, Int.toNat_natCast, ne_eq, zz] at h); (try simp only [nc] at h)) | refine Ob.mk ?_ ?_ | refine Chk.mk (by kernel_rfl) ?_ | refine Eq'.mk ?_ | (refine AllN.mk fun i hi => ?_; cbv) | (refine AllC.mk fun c hc hcm => ?_; (try dsimp only at hc); cbv) | (refine AllS.mk fun r hr => ?_; (try simp only [Dat.ok, Dat.dec, Leaf.ok, Leaf.val, Z0, Z1, Z2, Z3, Z4, Z5, Z6, Z7, val_sl] at hr); cbv)
    all_goals ((try dsimp only at *); (try simp only [nc, Int.toNat_natCast, ne_eq, zz] at *); (try simp only [nc] at *))
    all_goals try rw [nc] at *
    all_goals try simp only [Dat.dec, Leaf.val, Z0, Z1, Z2, Z3, Z4, Z5, Z6, Z7, val_sl] at *
    all_goals try have hm := hp2 _ (getD_mem' (show k < w.length by omega))
    all_goals have hu := numU_in (w.getD k Dat.d0)
    all_goals have hl : ((w.take k).map numU).length = k := by rw [List.length_map, List.length_take]; omega
    all_goals first
      | omega
      | exact ⟨by omega, by omega⟩
      | (unfold InR; omega)
      | exact ⟨trivial, trivial, by omega⟩
      | exact ⟨trivial, by omega, by omega⟩
      | exact ⟨Nat.le_refl _, Nat.le_refl _, by omega, by omega, Nat.le_refl _⟩
      | (have hk2 : k < w.length := by omega
         refine fin0 _ _ ?_
         rw [numsV, if_neg]
         intro q
         have := pl_get hk2 q
         simp only [okNu, Bool.and_eq_true, decide_eq_true_eq] at this
         first
           | omega
           | exact absurd this.2.2 (by assumption)
           | (have z : okU (w.getD k Dat.d0) = false := by assumption
              exact Bool.noConfusion (z.symm.trans this.1)))
      | (have hk2 : k < w.length := by omega
         have q : okNu (w.getD k Dat.d0) = true := by
           simp only [okNu, Bool.and_eq_true, decide_eq_true_eq]; exact ⟨by assumption, by omega, by assumption⟩
         refine ⟨⟨k + 1, by omega, pl_take hk2 ha q⟩, ?_, ?_, rfl, by (try dsimp only); omega⟩
         · cbv
           repeat' first | (refine Stp.mk ?_; cbv) | (refine Gen.mk fun r hr => ?_; (try simp only [Dat.ok, Dat.dec, Leaf.ok, Leaf.val, Z0, Z1, Z2, Z3, Z4, Z5, Z6, Z7, val_sl, val_nil] at hr); cbv) | exact trivial | rfl | refine Both.mk ?_ ?_ | (refine Imp.mk fun h => ?_; (try dsimp only at h); (try simp only [nc, Int.toNat_natCast, ne_eq, zz] at h); (try simp only [nc] at h)) | refine Ob.mk ?_ ?_ | refine Chk.mk (by kernel_rfl) ?_ | refine Eq'.mk ?_ | (refine AllN.mk fun i hi => ?_; cbv) | (refine AllC.mk fun c hc hcm => ?_; (try dsimp only at hc); cbv) | (refine AllS.mk fun r hr => ?_; (try simp only [Dat.ok, Dat.dec, Leaf.ok, Leaf.val, Z0, Z1, Z2, Z3, Z4, Z5, Z6, Z7, val_sl] at hr); cbv)
           all_goals exact nums_len hk2
         · cbv
           repeat' first | (refine Stp.mk ?_; cbv) | (refine Gen.mk fun r hr => ?_; (try simp only [Dat.ok, Dat.dec, Leaf.ok, Leaf.val, Z0, Z1, Z2, Z3, Z4, Z5, Z6, Z7, val_sl, val_nil] at hr); cbv) | exact trivial | rfl | refine Both.mk ?_ ?_ | (refine Imp.mk fun h => ?_; (try dsimp only at h); (try simp only [nc, Int.toNat_natCast, ne_eq, zz] at h); (try simp only [nc] at h)) | refine Ob.mk ?_ ?_ | refine Chk.mk (by kernel_rfl) ?_ | refine Eq'.mk ?_ | (refine AllN.mk fun i hi => ?_; cbv) | (refine AllC.mk fun c hc hcm => ?_; (try dsimp only at hc); cbv) | (refine AllS.mk fun r hr => ?_; (try simp only [Dat.ok, Dat.dec, Leaf.ok, Leaf.val, Z0, Z1, Z2, Z3, Z4, Z5, Z6, Z7, val_sl] at hr); cbv)
           all_goals first
             | exact nums_len hk2
             | exact nums_next hk2 hi
             | fail)
      | (have e1 : w.take k = w := List.take_of_length_le (by omega)
         rw [e1] at ha hl
         rw [e1]
         refine fin1 _ _ ha ?_
         rw [hl]; show decide _ = decide _; congr 1; exact propext ⟨fun h => by omega, fun h => by omega⟩)
      | fail
theorem numsC_ok : PcOk Tryz.prog 53 (numsC_C) := fun A K h => by
  unfold numsC_C at h
  split at h
  · rename_i w n
    cases h with
    | mk h1 h2 =>
      obtain ⟨g0, hp⟩ := h1
      refine FnOk.pre ?_ (A' := [Leaf.av fun _ => (Leaf.val w : (List ByteArray)), .i .i64 fun _ => n ()]) (.mk (Leaf.hle _ g0) (.mk (.mk (.mk rfl) (.mk rfl)) (trivial)))
      exact FnOk.out (K := fun r H _ => K r H) (numsC_vc (Leaf.val w) (n ()) hp) rfl h2.out
  · cases h

end Go.Proofs.YtnjngpjkhddnfaaGreatDoor
