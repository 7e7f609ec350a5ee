/- Plans told and numbers read: conf.row, conf.Write, conf.numbers, walked. -/
import Derived.Test.YtnjngpjkhddnfaaGreatDoorConf1
import Derived.Test.YtnjngpjkhddnfaaGreatDoorStrU
set_option linter.all false
namespace Go.Proofs.YtnjngpjkhddnfaaGreatDoor
open Go Go.Abs

def bzl (l : List UInt8) : ByteArray := ⟨l.toArray⟩
def rowA : ByteArray → List Int → ByteArray
  | w, [] => w
  | w, n :: r => rowA (w ++ (bzl [32] ++ itoaB n)) r
def rowV (w : ByteArray) (l : List Int) : ByteArray := rowA w l ++ bzl [10]
theorem rowA_drop {w : ByteArray} {l : List Int} {k : Nat} (hk : k < l.length) : rowA w (l.drop k) = rowA (w ++ (bzl [32] ++ itoaB (l.getD k Dat.d0))) (l.drop (k + 1)) := by
  rw [drop_cons Dat.d0 hk, rowA]
theorem getD_mem' {α : Type} [Dat α] {l : List α} {k : Nat} (hk : k < l.length) : l.getD k Dat.d0 ∈ l := by
  rw [List.getD_eq_getElem?_getD, List.getElem?_eq_getElem hk]
  exact List.getElem_mem hk
structure RwX (w0 : ByteArray) (l : List Int) where
  k : Nat
  w : ByteArray
  hk : k ≤ l.length
  hs : w.size ≤ w0.size + 22 * k
  hr : rowA w0 l = rowA w (l.drop k)
noncomputable def cRw : FuncId → Con := fun f => match f with
  | 51 => pureCon (detPC itoaC_D)
  | _ => fun _ _ _ => Bad 1001
theorem cRw_ok : ConOk Tryz.prog cRw := fun f A H K h => by
  unfold cRw at h
  split at h
  · exact ⟨⟨Tryz.f51, Tryz.func51, by kernel_rfl, by kernel_rfl⟩, pureCon_ok itoaC_ok h⟩
  · cases h
def rowC_R (r : Th (ByteArray)) : AV := .s fun _ => (r ())
def rowC_P (w : ByteArray) (l : (List Int)) : Prop := w.size ≤ 1000 ∧ l.length ≤ 1000 ∧ ∀ n ∈ l, -9223372036854775808 ≤ n ∧ n ≤ 9223372036854775807
def rowC_D : Det := fun A => match A with
  | [.s w, l] => some (fun _ => Leaf.ok (List Int) l ∧ rowC_P (w ()) (Leaf.val l), rowC_R fun _ => rowV (w ()) (Leaf.val l))
  | _ => none
def dRw : FuncId → Option Dt := fun f => match f with
  | 51 => some (.c itoaC_D)
  | _ => none
theorem dRw_ok : DetOk Tryz.prog dRw := fun f d h => by
  unfold dRw at h
  split at h
  · cases h; exact ⟨⟨Tryz.f51, Tryz.func51, by kernel_rfl, by kernel_rfl⟩, itoaC_ok⟩
  · cases h
set_option maxRecDepth 100000 in
set_option maxHeartbeats 4000000 in
theorem rowC_vc (w : ByteArray) (l : (List Int)) (hp : rowC_P w l) : FnOk Tryz.prog 26 [.s fun _ => w, Leaf.av fun _ => l] [] (outA (rowC_R fun _ => rowV w l) []) := by
  refine fn_ok envOk zl cRw_ok (draws_ok envOk zl dRw_ok mixed) (keep := [0, 1, 4, 6, 7, 8, 9, 10]) Tryz.func26 rfl ?_
  obtain ⟨hp1, hp2, hp3⟩ : w.size ≤ 1000 ∧ l.length ≤ 1000 ∧ ∀ n ∈ l, -9223372036854775808 ≤ n ∧ n ≤ 9223372036854775807 := hp
  have fin : ∀ (e : ByteArray) H kl, rowV w l = e → outA (rowC_R fun _ => rowV w l) [] (.s fun _ => e) H kl := fun e H kl h => by
    rw [h]
    cbv
    repeat' first | (refine Stp.mk ?_; cbv) | (refine Gen.mk fun r hr => ?_; (try simp only [Dat.ok, Dat.dec, Leaf.ok, Leaf.val, Z0, Z1, Z2, Z3, Z4, Z5, Z6, Z7, val_sl, val_nil] at hr); cbv) | exact trivial | rfl | refine Both.mk ?_ ?_ | (refine Imp.mk fun h => ?_; (try dsimp only at h); (try simp only [nc, Int.toNat_natCast, ne_eq, zz] at h); (try simp only [nc] at h)) | refine Ob.mk ?_ ?_ | refine Chk.mk (by kernel_rfl) ?_ | refine Eq'.mk ?_ | (refine AllN.mk fun i hi => ?_; cbv) | (refine AllC.mk fun c hc hcm => ?_; (try dsimp only at hc); cbv) | (refine AllS.mk fun r hr => ?_; (try simp only [Dat.ok, Dat.dec, Leaf.ok, Leaf.val, Z0, Z1, Z2, Z3, Z4, Z5, Z6, Z7, val_sl] at hr); cbv)
  generalize outA (rowC_R fun _ => rowV w l) [] = K at fin ⊢
  cbv
  repeat' first | (show Stp _; exfalso; first | omega | (exact h ‹_›) | (exact absurd ‹_› h) | (exact Bool.false_ne_true (h.symm.trans (show _ = true by assumption)))) | (refine Stp.mk ?_; cbv) | (refine Gen.mk fun r hr => ?_; (try simp only [Dat.ok, Dat.dec, Leaf.ok, Leaf.val, Z0, Z1, Z2, Z3, Z4, Z5, Z6, Z7, val_sl, val_nil] at hr); cbv) | exact trivial | rfl | refine Both.mk ?_ ?_ | (refine Imp.mk fun h => ?_; (try dsimp only at h); (try simp only [nc, Int.toNat_natCast, ne_eq, zz] at h); (try simp only [nc] at h)) | refine Ob.mk ?_ ?_ | refine Chk.mk (by kernel_rfl) ?_ | refine Eq'.mk ?_ | (refine AllN.mk fun i hi => ?_; cbv) | (refine AllC.mk fun c hc hcm => ?_; (try dsimp only at hc); cbv) | (refine AllS.mk fun r hr => ?_; (try simp only [Dat.ok, Dat.dec, Leaf.ok, Leaf.val, Z0, Z1, Z2, Z3, Z4, Z5, Z6, Z7, val_sl] at hr); cbv)
  all_goals ((try dsimp only at *); (try simp only [nc, Int.toNat_natCast, ne_eq, zz] at *); (try simp only [nc] at *))
  refine LoopVC.frame [0, 6, 9, 10] (RwX w l) (fun x => [(9, .i .i64 fun _ => x.k), (0, .s fun _ => x.w)]) (fun _ => []) [] (fun x => l.length - x.k) ⟨0, w, Nat.zero_le _, Nat.le_refl _, rfl⟩ rfl (fun _ => rfl) ?_ ?_ fun ⟨k, v, hk, hs, hr⟩ => ?_
  iterate 2
    · cbv
      repeat' first | (refine Stp.mk ?_; cbv) | (refine Gen.mk fun r hr => ?_; (try simp only [Dat.ok, Dat.dec, Leaf.ok, Leaf.val, Z0, Z1, Z2, Z3, Z4, Z5, Z6, Z7, val_sl, val_nil] at hr); cbv) | exact trivial | rfl | refine Both.mk ?_ ?_ | (refine Imp.mk fun h => ?_; (try dsimp only at h); (try simp only [nc, Int.toNat_natCast, ne_eq, zz] at h); (try simp only [nc] at h)) | refine Ob.mk ?_ ?_ | refine Chk.mk (by kernel_rfl) ?_ | refine Eq'.mk ?_ | (refine AllN.mk fun i hi => ?_; cbv) | (refine AllC.mk fun c hc hcm => ?_; (try dsimp only at hc); cbv) | (refine AllS.mk fun r hr => ?_; (try simp only [Dat.ok, Dat.dec, Leaf.ok, Leaf.val, Z0, Z1, Z2, Z3, Z4, Z5, Z6, Z7, val_sl] at hr); cbv)
  · cbv
    repeat' first | (show Stp _; exfalso; first | omega | (exact h ‹_›) | (exact absurd ‹_› h) | (exact Bool.false_ne_true (h.symm.trans (show _ = true by assumption)))) | (refine Stp.mk ?_; cbv) | (refine Gen.mk fun r hr => ?_; (try simp only [Dat.ok, Dat.dec, Leaf.ok, Leaf.val, Z0, Z1, Z2, Z3, Z4, Z5, Z6, Z7, val_sl, val_nil] at hr); cbv) | exact trivial | rfl | refine Both.mk ?_ ?_ | (refine Imp.mk fun h => ?_; (try dsimp only at h); (try simp only [nc, Int.toNat_natCast, ne_eq, zz] at h); (try simp only [nc] at h)) | refine Ob.mk ?_ ?_ | refine Chk.mk (by kernel_rfl) ?_ | refine Eq'.mk ?_ | (refine AllN.mk fun i hi => ?_; cbv) | (refine AllC.mk fun c hc hcm => ?_; (try dsimp only at hc); cbv) | (refine AllS.mk fun r hr => ?_; (try simp only [Dat.ok, Dat.dec, Leaf.ok, Leaf.val, Z0, Z1, Z2, Z3, Z4, Z5, Z6, Z7, val_sl] at hr); cbv)
    all_goals ((try dsimp only at *); (try simp only [nc, Int.toNat_natCast, ne_eq, zz] at *); (try simp only [nc] at *))
    all_goals try rw [nc] at *
    all_goals try have hn := hp3 _ (getD_mem' (show k < l.length by omega))
    all_goals try have hz := itoaB_size hn
    all_goals first
      | omega
      | exact ⟨by omega, by omega⟩
      | (unfold InR; omega)
      | exact hn
      | (rw [show (⟨⟨[32]⟩⟩ : ByteArray).size = 1 from rfl]; omega)
      | (rw [ByteArray.size_append, show (⟨⟨[32]⟩⟩ : ByteArray).size = 1 from rfl]; omega)
      | (rw [show (⟨⟨[10]⟩⟩ : ByteArray).size = 1 from rfl]; omega)
      | (have hk2 : k < l.length := by omega
         refine ⟨⟨k + 1, v ++ (bzl [32] ++ itoaB (l.getD k Dat.d0)), by omega, by
           rw [ByteArray.size_append, ByteArray.size_append, show (bzl [32]).size = 1 from rfl]; omega, by rw [hr, rowA_drop hk2]⟩, ?_, ?_, rfl, by (try dsimp only); omega⟩
         · cbv
           repeat' first | (refine Stp.mk ?_; cbv) | (refine Gen.mk fun r hr => ?_; (try simp only [Dat.ok, Dat.dec, Leaf.ok, Leaf.val, Z0, Z1, Z2, Z3, Z4, Z5, Z6, Z7, val_sl, val_nil] at hr); cbv) | exact trivial | rfl | refine Both.mk ?_ ?_ | (refine Imp.mk fun h => ?_; (try dsimp only at h); (try simp only [nc, Int.toNat_natCast, ne_eq, zz] at h); (try simp only [nc] at h)) | refine Ob.mk ?_ ?_ | refine Chk.mk (by kernel_rfl) ?_ | refine Eq'.mk ?_ | (refine AllN.mk fun i hi => ?_; cbv) | (refine AllC.mk fun c hc hcm => ?_; (try dsimp only at hc); cbv) | (refine AllS.mk fun r hr => ?_; (try simp only [Dat.ok, Dat.dec, Leaf.ok, Leaf.val, Z0, Z1, Z2, Z3, Z4, Z5, Z6, Z7, val_sl] at hr); cbv)
         · cbv
           repeat' first | (refine Stp.mk ?_; cbv) | (refine Gen.mk fun r hr => ?_; (try simp only [Dat.ok, Dat.dec, Leaf.ok, Leaf.val, Z0, Z1, Z2, Z3, Z4, Z5, Z6, Z7, val_sl, val_nil] at hr); cbv) | exact trivial | rfl | refine Both.mk ?_ ?_ | (refine Imp.mk fun h => ?_; (try dsimp only at h); (try simp only [nc, Int.toNat_natCast, ne_eq, zz] at h); (try simp only [nc] at h)) | refine Ob.mk ?_ ?_ | refine Chk.mk (by kernel_rfl) ?_ | refine Eq'.mk ?_ | (refine AllN.mk fun i hi => ?_; cbv) | (refine AllC.mk fun c hc hcm => ?_; (try dsimp only at hc); cbv) | (refine AllS.mk fun r hr => ?_; (try simp only [Dat.ok, Dat.dec, Leaf.ok, Leaf.val, Z0, Z1, Z2, Z3, Z4, Z5, Z6, Z7, val_sl] at hr); cbv))
      | (refine fin _ _ _ ?_
         rw [rowV, hr, List.drop_eq_nil_of_le (by omega), rowA]; rfl)
      | fail
theorem rowC_ok : PcOk Tryz.prog 26 (detPC rowC_D) := det_okA fun A p r h hp0 => by
  unfold rowC_D at h
  split at h
  · rename_i w l
    cases h
    obtain ⟨g0, hp⟩ := hp0
    exact ⟨rfl, FnOk.pre (A' := [.s fun _ => w (), Leaf.av fun _ => (Leaf.val l : (List Int))]) (rowC_vc (w ()) (Leaf.val l) hp) (.mk (.mk rfl) (.mk (Leaf.hle _ g0) (trivial)))⟩
  · cases h
def frameB : ByteArray := bzl [102, 114, 97, 109, 101]
def wantB0 : ByteArray := bzl [119, 97, 110, 116]
def jobB : ByteArray := bzl [106, 111, 98]
def wantR (w : Want) : ByteArray := rowV wantB0 [w.owner, w.frm, w.long, w.every]
def jobR (j : PlanJob) : ByteArray := rowV jobB [j.owner, j.task.long, j.task.every, j.task.due]
def flatB {α : Type} (f : α → ByteArray) : List α → ByteArray
  | [] => .empty
  | x :: r => f x ++ flatB f r
def textP (p : Plan) : ByteArray := (rowV frameB [p.frame] ++ flatB wantR p.wants) ++ flatB jobR p.jobs
def writeV (p : Plan) : ByteArray × Int := if pchkV p = 0 then (textP p, 0) else (.empty, pchkV p)
theorem flat_app {α : Type} {f : α → ByteArray} {a b : List α} : flatB f (a ++ b) = flatB f a ++ flatB f b := by
  induction a with
  | nil => exact ByteArray.empty_append.symm
  | cons x r ih => rw [List.cons_append, flatB, flatB, ih, ByteArray.append_assoc]
theorem flat_take {α : Type} [Dat α] {f : α → ByteArray} {l : List α} {k : Nat} (hk : k < l.length) : flatB f (l.take (k + 1)) = flatB f (l.take k) ++ f (l.getD k Dat.d0) := by
  rw [List.take_add_one, List.getElem?_eq_getElem hk, flat_app, List.getD_eq_getElem?_getD, List.getElem?_eq_getElem hk]
  show _ ++ (f l[k] ++ .empty) = _
  rw [ByteArray.append_empty]; rfl
theorem rowA_size : ∀ {l : List Int} {w : ByteArray}, (∀ n ∈ l, -9223372036854775808 ≤ n ∧ n ≤ 9223372036854775807) → (rowA w l).size ≤ w.size + 22 * l.length
  | [], w, _ => Nat.le_refl _
  | n :: r, w, h => by
    have h1 := rowA_size (w := w ++ (bzl [32] ++ itoaB n)) (l := r) fun x hx => h x (List.mem_cons_of_mem _ hx)
    have h2 := itoaB_size (h n (List.mem_cons_self ..))
    rw [rowA]
    rw [ByteArray.size_append, ByteArray.size_append, show (bzl [32]).size = 1 from rfl] at h1
    rw [List.length_cons]; omega
theorem rowV_size {l : List Int} {w : ByteArray} (h : ∀ n ∈ l, -9223372036854775808 ≤ n ∧ n ≤ 9223372036854775807) : (rowV w l).size ≤ w.size + 22 * l.length + 1 := by
  have := rowA_size (w := w) h
  rw [rowV, ByteArray.size_append, show (bzl [10]).size = 1 from rfl]; omega
theorem val_4 (a b c d : Int) : Leaf.val (α := List Int) (.sl 1 (fun _ => 4) (rowN 1 [.i .i64 fun _ => a, .i .i64 fun _ => b, .i .i64 fun _ => c, .i .i64 fun _ => d])) = [a, b, c, d] := rfl
theorem ok_4 (a b c d : Int) : Leaf.ok (List Int) (.sl 1 (fun _ => 4) (rowN 1 [.i .i64 fun _ => a, .i .i64 fun _ => b, .i .i64 fun _ => c, .i .i64 fun _ => d])) := by
  refine ⟨rfl, fun i hi => ?_⟩
  have hi : i < 4 := hi
  rcases i with _ | _ | _ | _ | i
  · exact trivial
  · exact trivial
  · exact trivial
  · exact trivial
  · omega
theorem pchk_iff {p : Plan} : pchkV p = 0 ↔ (1 ≤ p.frame ∧ p.frame ≤ 1000000) ∧ (p.wants.length ≤ 200 ∧ p.jobs.length ≤ 100) ∧ p.wants.all wantF = true ∧ p.jobs.all jobF = true := by
  unfold pchkV
  by_cases h1 : p.frame < 1 ∨ 1000000 < p.frame
  · rw [if_pos h1]; constructor
    · intro h; cases h
    · intro h; omega
  · rw [if_neg h1]
    by_cases h2 : 200 < p.wants.length ∨ 100 < p.jobs.length
    · rw [if_pos h2]; constructor
      · intro h; cases h
      · intro h; omega
    · rw [if_neg h2]
      by_cases h3 : p.wants.all wantF = true ∧ p.jobs.all jobF = true
      · rw [if_pos h3]; exact ⟨fun _ => ⟨by omega, by omega, h3⟩, fun _ => rfl⟩
      · rw [if_neg h3]; constructor
        · intro h; cases h
        · intro h; exact absurd h.2.2 h3
theorem want_in {w : Want} (h : wantF w = true) : (0 ≤ w.owner ∧ w.owner < 16) ∧ (0 ≤ w.frm ∧ w.frm ≤ 1000000) ∧ (0 ≤ w.long ∧ w.long ≤ 1000000) ∧ (0 ≤ w.every ∧ w.every ≤ 1000000) := by
  simp [wantF, smV, bigF, ownB] at h
  omega
theorem job_in {j : PlanJob} (h : jobF j = true) : (0 ≤ j.owner ∧ j.owner < 16) ∧ okT j.task = true := by
  unfold jobF at h
  rw [Bool.and_eq_true] at h
  have h2 := tchk_iff.1 (of_decide_eq_true h.2)
  have h1 := h.1
  simp [ownB] at h1
  exact ⟨h1, by simpa using h2.2⟩
theorem row_4 {a b c d : Int} (h : (0 ≤ a ∧ a ≤ 1000000) ∧ (0 ≤ b ∧ b ≤ 1000000) ∧ (0 ≤ c ∧ c ≤ 1000000) ∧ (0 ≤ d ∧ d ≤ 1000000)) : ∀ n ∈ [a, b, c, d], -9223372036854775808 ≤ n ∧ n ≤ 9223372036854775807 := by
  intro n hn
  simp at hn
  rcases hn with rfl | rfl | rfl | rfl <;> omega
theorem want_row {w : Want} (h : wantF w = true) : ∀ n ∈ [w.owner, w.frm, w.long, w.every], -9223372036854775808 ≤ n ∧ n ≤ 9223372036854775807 := row_4 (by have := want_in h; omega)
theorem job_row {j : PlanJob} (h : jobF j = true) : ∀ n ∈ [j.owner, j.task.long, j.task.every, j.task.due], -9223372036854775808 ≤ n ∧ n ≤ 9223372036854775807 := row_4 (by have := job_in h; have := okT_iff.1 this.2; omega)
structure WwX (p : Plan) where
  k : Nat
  o : ByteArray
  hk : k ≤ p.wants.length
  hs : o.size ≤ 100 + 100 * k
  hr : o = rowV frameB [p.frame] ++ flatB wantR (p.wants.take k)
structure WjX (p : Plan) where
  k : Nat
  o : ByteArray
  hk : k ≤ p.jobs.length
  hs : o.size ≤ 100 + 100 * 200 + 100 * k
  hr : o = (rowV frameB [p.frame] ++ flatB wantR p.wants) ++ flatB jobR (p.jobs.take k)
noncomputable def cWr : FuncId → Con := fun f => match f with
  | 21 => pureCon (detPC pchk_D)
  | 26 => pureCon (detPC rowC_D)
  | _ => fun _ _ _ => Bad 1001
theorem cWr_ok : ConOk Tryz.prog cWr := fun f A H K h => by
  unfold cWr at h
  split at h
  · exact ⟨⟨Tryz.f21, Tryz.func21, by kernel_rfl, by kernel_rfl⟩, pureCon_ok pchk_ok h⟩
  · exact ⟨⟨Tryz.f26, Tryz.func26, by kernel_rfl, by kernel_rfl⟩, pureCon_ok rowC_ok h⟩
  · cases h
def dWr : FuncId → Option Dt := fun f => match f with
  | 26 => some (.c rowC_D)
  | _ => none
theorem dWr_ok : DetOk Tryz.prog dWr := fun f d h => by
  unfold dWr at h
  split at h
  · cases h; exact ⟨⟨Tryz.f26, Tryz.func26, by kernel_rfl, by kernel_rfl⟩, rowC_ok⟩
  · cases h
def writeC_R (r : Th (ByteArray × Int)) : AV := .tup [.s fun _ => (r ()).1, .i .i64 fun _ => (r ()).2]
def writeC_P (p : Plan) : Prop := p.wants.length ≤ 9223372036854775807 ∧ p.jobs.length ≤ 9223372036854775807
def writeC_D : Det := fun A => match A with
  | [.agg p] => some (fun _ => Dat.ok Plan p ∧ writeC_P (Dat.dec p), writeC_R fun _ => writeV (Dat.dec p))
  | _ => none
set_option maxRecDepth 100000 in
set_option maxHeartbeats 4000000 in
theorem writeC_vc (p : Plan) (hp : writeC_P p) : FnOk Tryz.prog 16 [.agg (Dat.enc fun _ => p)] [] (outA (writeC_R fun _ => writeV p) []) := by
  refine fn_ok envOk zl cWr_ok (draws_ok envOk zl dWr_ok mixed) (keep := [0, 1, 2, 3, 4, 5, 7, 9, 13, 20, 21, 22, 23, 40, 41, 42, 43]) Tryz.func16 rfl ?_
  obtain ⟨hp1, hp2⟩ : p.wants.length ≤ 9223372036854775807 ∧ p.jobs.length ≤ 9223372036854775807 := hp
  have fin : ∀ (a : ByteArray) (e : Int) H kl, writeV p = (a, e) → outA (writeC_R fun _ => writeV p) [] (.tup [.s fun _ => a, .i .i64 fun _ => e]) H kl := fun a e H kl h => by
    rw [h]
    cbv
    repeat' first | (refine Stp.mk ?_; cbv) | (refine Gen.mk fun r hr => ?_; (try simp only [Dat.ok, Dat.dec, Leaf.ok, Leaf.val, Z0, Z1, Z2, Z3, Z4, Z5, Z6, Z7, val_sl, val_nil] at hr); cbv) | exact trivial | rfl | refine Both.mk ?_ ?_ | (refine Imp.mk fun h => ?_; (try dsimp only at h); (try simp only [nc, Int.toNat_natCast, ne_eq, zz] at h); (try simp only [nc] at h)) | refine Ob.mk ?_ ?_ | refine Chk.mk (by kernel_rfl) ?_ | refine Eq'.mk ?_ | (refine AllN.mk fun i hi => ?_; cbv) | (refine AllC.mk fun c hc hcm => ?_; (try dsimp only at hc); cbv) | (refine AllS.mk fun r hr => ?_; (try simp only [Dat.ok, Dat.dec, Leaf.ok, Leaf.val, Z0, Z1, Z2, Z3, Z4, Z5, Z6, Z7, val_sl] at hr); cbv)
  generalize outA (writeC_R fun _ => writeV p) [] = K at fin ⊢
  cbv
  repeat' first | (show Stp _; exfalso; first | omega | (exact h ‹_›) | (exact absurd ‹_› h) | (exact Bool.false_ne_true (h.symm.trans (show _ = true by assumption)))) | (refine Stp.mk ?_; cbv) | (refine Gen.mk fun r hr => ?_; (try simp only [Dat.ok, Dat.dec, Leaf.ok, Leaf.val, Z0, Z1, Z2, Z3, Z4, Z5, Z6, Z7, val_sl, val_nil] at hr); cbv) | exact trivial | rfl | refine Both.mk ?_ ?_ | (refine Imp.mk fun h => ?_; (try dsimp only at h); (try simp only [nc, Int.toNat_natCast, ne_eq, zz] at h); (try simp only [nc] at h)) | refine Ob.mk ?_ ?_ | refine Chk.mk (by kernel_rfl) ?_ | refine Eq'.mk ?_ | (refine AllN.mk fun i hi => ?_; cbv) | (refine AllC.mk fun c hc hcm => ?_; (try dsimp only at hc); cbv) | (refine AllS.mk fun r hr => ?_; (try simp only [Dat.ok, Dat.dec, Leaf.ok, Leaf.val, Z0, Z1, Z2, Z3, Z4, Z5, Z6, Z7, val_sl] at hr); cbv)
  all_goals ((try dsimp only at *); (try simp only [nc, Int.toNat_natCast, ne_eq, zz] at *); (try simp only [nc] at *))
  all_goals try simp only [Dat.dec, Leaf.val, Z0, Z1, Z2, Z3, Z4, Z5, Z6, Z7, val_sl, Plan.eta] at *
  all_goals have i0 : pchkV p = 0 → -9223372036854775808 ≤ p.frame ∧ p.frame ≤ 9223372036854775807 := fun h => by have := (pchk_iff.1 h).1; omega
  all_goals first
    | exact ⟨⟨trivial, ⟨rfl, fun i _ => Dat.hok _⟩, rfl, fun i _ => Dat.hok _⟩, hp1, hp2⟩
    | (refine fin _ _ _ _ ?_
       rw [writeV, if_neg (by assumption)]; rfl)
    | exact Nat.le_refl _
    | exact ⟨⟨rfl, fun i _ => trivial⟩, show (5 : Nat) ≤ _ by decide, show (1 : Nat) ≤ _ by decide, fun n hn => by
        rw [List.mem_singleton.1 hn]; exact i0 (by assumption)⟩
    | skip
  have h0 : pchkV p = 0 := by assumption
  obtain ⟨q1, ⟨q2, q3⟩, q4, q5⟩ := pchk_iff.1 h0
  have z1 := rowV_size (w := frameB) (l := [p.frame]) fun n hn => by rw [List.mem_singleton.1 hn]; exact i0 h0
  have z1 : (rowV frameB [p.frame]).size ≤ 28 := z1
  refine LoopVC.frame [5, 7, 22, 23] (WwX p) (fun x => [(22, .i .i64 fun _ => x.k), (5, .s fun _ => x.o)]) (fun _ => []) [] (fun x => p.wants.length - x.k) ⟨0, rowV frameB [p.frame], Nat.zero_le _, by omega, ByteArray.append_empty.symm⟩ rfl (fun _ => rfl) ?_ ?_ fun ⟨k, o, hk, hs, hr⟩ => ?_
  iterate 2
    · cbv
      repeat' first | (refine Stp.mk ?_; cbv) | (refine Gen.mk fun r hr => ?_; (try simp only [Dat.ok, Dat.dec, Leaf.ok, Leaf.val, Z0, Z1, Z2, Z3, Z4, Z5, Z6, Z7, val_sl, val_nil] at hr); cbv) | exact trivial | rfl | refine Both.mk ?_ ?_ | (refine Imp.mk fun h => ?_; (try dsimp only at h); (try simp only [nc, Int.toNat_natCast, ne_eq, zz] at h); (try simp only [nc] at h)) | refine Ob.mk ?_ ?_ | refine Chk.mk (by kernel_rfl) ?_ | refine Eq'.mk ?_ | (refine AllN.mk fun i hi => ?_; cbv) | (refine AllC.mk fun c hc hcm => ?_; (try dsimp only at hc); cbv) | (refine AllS.mk fun r hr => ?_; (try simp only [Dat.ok, Dat.dec, Leaf.ok, Leaf.val, Z0, Z1, Z2, Z3, Z4, Z5, Z6, Z7, val_sl] at hr); cbv)
  · cbv
    repeat' first | (show Stp _; exfalso; first | omega | (exact h ‹_›) | (exact absurd ‹_› h) | (exact Bool.false_ne_true (h.symm.trans (show _ = true by assumption)))) | (refine Stp.mk ?_; cbv) | (refine Gen.mk fun r hr => ?_; (try simp only [Dat.ok, Dat.dec, Leaf.ok, Leaf.val, Z0, Z1, Z2, Z3, Z4, Z5, Z6, Z7, val_sl, val_nil] at hr); cbv) | exact trivial | rfl | refine Both.mk ?_ ?_ | (refine Imp.mk fun h => ?_; (try dsimp only at h); (try simp only [nc, Int.toNat_natCast, ne_eq, zz] at h); (try simp only [nc] at h)) | refine Ob.mk ?_ ?_ | refine Chk.mk (by kernel_rfl) ?_ | refine Eq'.mk ?_ | (refine AllN.mk fun i hi => ?_; cbv) | (refine AllC.mk fun c hc hcm => ?_; (try dsimp only at hc); cbv) | (refine AllS.mk fun r hr => ?_; (try simp only [Dat.ok, Dat.dec, Leaf.ok, Leaf.val, Z0, Z1, Z2, Z3, Z4, Z5, Z6, Z7, val_sl] at hr); cbv)
    all_goals ((try dsimp only at *); (try simp only [nc, Int.toNat_natCast, ne_eq, zz] at *); (try simp only [nc] at *))
    all_goals try rw [nc] at *
    all_goals try simp only [Dat.dec, Leaf.val, Z0, Z1, Z2, Z3, Z4, Z5, Z6, Z7, val_sl, val_4] at *
    all_goals try have hw := pl_get (show k < p.wants.length by omega) q4
    all_goals try have hz : (wantR (p.wants.getD k Dat.d0)).size ≤ 93 := rowV_size (w := wantB0) (want_row hw)
    all_goals first
      | omega
      | exact ⟨by omega, by omega⟩
      | (unfold InR; omega)
      | exact Nat.le_refl _
      | exact ⟨ok_4 _ _ _ _, show (4 : Nat) ≤ _ by decide, show (4 : Nat) ≤ _ by decide, want_row hw⟩
      | (show o.size + (wantR (p.wants.getD k Dat.d0)).size ≤ _; omega)
      | (have hk2 : k < p.wants.length := by omega
         refine ⟨⟨k + 1, o ++ wantR (p.wants.getD k Dat.d0), by omega, by rw [ByteArray.size_append]; omega, by rw [hr, flat_take hk2, ByteArray.append_assoc]⟩, ?_, ?_, rfl, by (try dsimp only); omega⟩
         · cbv
           repeat' first | (refine Stp.mk ?_; cbv) | (refine Gen.mk fun r hr => ?_; (try simp only [Dat.ok, Dat.dec, Leaf.ok, Leaf.val, Z0, Z1, Z2, Z3, Z4, Z5, Z6, Z7, val_sl, val_nil] at hr); cbv) | exact trivial | rfl | refine Both.mk ?_ ?_ | (refine Imp.mk fun h => ?_; (try dsimp only at h); (try simp only [nc, Int.toNat_natCast, ne_eq, zz] at h); (try simp only [nc] at h)) | refine Ob.mk ?_ ?_ | refine Chk.mk (by kernel_rfl) ?_ | refine Eq'.mk ?_ | (refine AllN.mk fun i hi => ?_; cbv) | (refine AllC.mk fun c hc hcm => ?_; (try dsimp only at hc); cbv) | (refine AllS.mk fun r hr => ?_; (try simp only [Dat.ok, Dat.dec, Leaf.ok, Leaf.val, Z0, Z1, Z2, Z3, Z4, Z5, Z6, Z7, val_sl] at hr); cbv)
         · cbv
           repeat' first | (refine Stp.mk ?_; cbv) | (refine Gen.mk fun r hr => ?_; (try simp only [Dat.ok, Dat.dec, Leaf.ok, Leaf.val, Z0, Z1, Z2, Z3, Z4, Z5, Z6, Z7, val_sl, val_nil] at hr); cbv) | exact trivial | rfl | refine Both.mk ?_ ?_ | (refine Imp.mk fun h => ?_; (try dsimp only at h); (try simp only [nc, Int.toNat_natCast, ne_eq, zz] at h); (try simp only [nc] at h)) | refine Ob.mk ?_ ?_ | refine Chk.mk (by kernel_rfl) ?_ | refine Eq'.mk ?_ | (refine AllN.mk fun i hi => ?_; cbv) | (refine AllC.mk fun c hc hcm => ?_; (try dsimp only at hc); cbv) | (refine AllS.mk fun r hr => ?_; (try simp only [Dat.ok, Dat.dec, Leaf.ok, Leaf.val, Z0, Z1, Z2, Z3, Z4, Z5, Z6, Z7, val_sl] at hr); cbv))
      | skip
    have e1 : p.wants.take k = p.wants := List.take_of_length_le (by omega)
    rw [e1] at hr
    refine LoopVC.frame [5, 9, 42, 43] (WjX p) (fun x => [(42, .i .i64 fun _ => x.k), (5, .s fun _ => x.o)]) (fun _ => []) [] (fun x => p.jobs.length - x.k) ⟨0, o, Nat.zero_le _, by omega, by rw [hr]; exact ByteArray.append_empty.symm⟩ rfl (fun _ => rfl) ?_ ?_ fun ⟨k, o, hk, hs, hr⟩ => ?_
    iterate 2
      · cbv
        repeat' first | (refine Stp.mk ?_; cbv) | (refine Gen.mk fun r hr => ?_; (try simp only [Dat.ok, Dat.dec, Leaf.ok, Leaf.val, Z0, Z1, Z2, Z3, Z4, Z5, Z6, Z7, val_sl, val_nil] at hr); cbv) | exact trivial | rfl | refine Both.mk ?_ ?_ | (refine Imp.mk fun h => ?_; (try dsimp only at h); (try simp only [nc, Int.toNat_natCast, ne_eq, zz] at h); (try simp only [nc] at h)) | refine Ob.mk ?_ ?_ | refine Chk.mk (by kernel_rfl) ?_ | refine Eq'.mk ?_ | (refine AllN.mk fun i hi => ?_; cbv) | (refine AllC.mk fun c hc hcm => ?_; (try dsimp only at hc); cbv) | (refine AllS.mk fun r hr => ?_; (try simp only [Dat.ok, Dat.dec, Leaf.ok, Leaf.val, Z0, Z1, Z2, Z3, Z4, Z5, Z6, Z7, val_sl] at hr); cbv)
    · cbv
      repeat' first | (show Stp _; exfalso; first | omega | (exact h ‹_›) | (exact absurd ‹_› h) | (exact Bool.false_ne_true (h.symm.trans (show _ = true by assumption)))) | (refine Stp.mk ?_; cbv) | (refine Gen.mk fun r hr => ?_; (try simp only [Dat.ok, Dat.dec, Leaf.ok, Leaf.val, Z0, Z1, Z2, Z3, Z4, Z5, Z6, Z7, val_sl, val_nil] at hr); cbv) | exact trivial | rfl | refine Both.mk ?_ ?_ | (refine Imp.mk fun h => ?_; (try dsimp only at h); (try simp only [nc, Int.toNat_natCast, ne_eq, zz] at h); (try simp only [nc] at h)) | refine Ob.mk ?_ ?_ | refine Chk.mk (by kernel_rfl) ?_ | refine Eq'.mk ?_ | (refine AllN.mk fun i hi => ?_; cbv) | (refine AllC.mk fun c hc hcm => ?_; (try dsimp only at hc); cbv) | (refine AllS.mk fun r hr => ?_; (try simp only [Dat.ok, Dat.dec, Leaf.ok, Leaf.val, Z0, Z1, Z2, Z3, Z4, Z5, Z6, Z7, val_sl] at hr); cbv)
      all_goals ((try dsimp only at *); (try simp only [nc, Int.toNat_natCast, ne_eq, zz] at *); (try simp only [nc] at *))
      all_goals try rw [nc] at *
      all_goals try simp only [Dat.dec, Leaf.val, Z0, Z1, Z2, Z3, Z4, Z5, Z6, Z7, val_sl, val_4] at *
      all_goals try have hw := pl_get (show k < p.jobs.length by omega) q5
      all_goals try have hz : (jobR (p.jobs.getD k Dat.d0)).size ≤ 92 := rowV_size (w := jobB) (job_row hw)
      all_goals first
        | omega
        | exact ⟨by omega, by omega⟩
        | (unfold InR; omega)
        | exact Nat.le_refl _
        | exact ⟨ok_4 _ _ _ _, show (3 : Nat) ≤ _ by decide, show (4 : Nat) ≤ _ by decide, job_row hw⟩
        | (show o.size + (jobR (p.jobs.getD k Dat.d0)).size ≤ _; omega)
        | (have hk2 : k < p.jobs.length := by omega
           refine ⟨⟨k + 1, o ++ jobR (p.jobs.getD k Dat.d0), by omega, by rw [ByteArray.size_append]; omega, by rw [hr, flat_take hk2, ByteArray.append_assoc]⟩, ?_, ?_, rfl, by (try dsimp only); omega⟩
           · cbv
             repeat' first | (refine Stp.mk ?_; cbv) | (refine Gen.mk fun r hr => ?_; (try simp only [Dat.ok, Dat.dec, Leaf.ok, Leaf.val, Z0, Z1, Z2, Z3, Z4, Z5, Z6, Z7, val_sl, val_nil] at hr); cbv) | exact trivial | rfl | refine Both.mk ?_ ?_ | (refine Imp.mk fun h => ?_; (try dsimp only at h); (try simp only [nc, Int.toNat_natCast, ne_eq, zz] at h); (try simp only [nc] at h)) | refine Ob.mk ?_ ?_ | refine Chk.mk (by kernel_rfl) ?_ | refine Eq'.mk ?_ | (refine AllN.mk fun i hi => ?_; cbv) | (refine AllC.mk fun c hc hcm => ?_; (try dsimp only at hc); cbv) | (refine AllS.mk fun r hr => ?_; (try simp only [Dat.ok, Dat.dec, Leaf.ok, Leaf.val, Z0, Z1, Z2, Z3, Z4, Z5, Z6, Z7, val_sl] at hr); cbv)
           · cbv
             repeat' first | (refine Stp.mk ?_; cbv) | (refine Gen.mk fun r hr => ?_; (try simp only [Dat.ok, Dat.dec, Leaf.ok, Leaf.val, Z0, Z1, Z2, Z3, Z4, Z5, Z6, Z7, val_sl, val_nil] at hr); cbv) | exact trivial | rfl | refine Both.mk ?_ ?_ | (refine Imp.mk fun h => ?_; (try dsimp only at h); (try simp only [nc, Int.toNat_natCast, ne_eq, zz] at h); (try simp only [nc] at h)) | refine Ob.mk ?_ ?_ | refine Chk.mk (by kernel_rfl) ?_ | refine Eq'.mk ?_ | (refine AllN.mk fun i hi => ?_; cbv) | (refine AllC.mk fun c hc hcm => ?_; (try dsimp only at hc); cbv) | (refine AllS.mk fun r hr => ?_; (try simp only [Dat.ok, Dat.dec, Leaf.ok, Leaf.val, Z0, Z1, Z2, Z3, Z4, Z5, Z6, Z7, val_sl] at hr); cbv))
        | (refine fin _ _ _ _ ?_
           have e2 : p.jobs.take k = p.jobs := List.take_of_length_le (by omega)
           rw [e2] at hr
           rw [writeV, if_pos h0, hr]; rfl)
        | fail
theorem writeC_ok : PcOk Tryz.prog 16 (detPC writeC_D) := det_okA fun A p r h hp0 => by
  unfold writeC_D at h
  split at h
  · rename_i p
    cases h
    obtain ⟨g0, hp⟩ := hp0
    exact ⟨rfl, FnOk.pre (A' := [.agg (Dat.enc fun _ => (Dat.dec p : Plan))]) (writeC_vc (Dat.dec p) hp) (.mk (Dat.hle _ g0) (trivial))⟩
  · cases h
def okNu (s : ByteArray) : Bool := okU s && (decide (s.size ≤ 9) && decide (decB (numU s) = s))
def numsV (w : List ByteArray) (n : Int) : List Int × Bool := if w.all okNu = true then (w.map numU, decide ((w.length : Int) = n)) else ([], false)
theorem parseM_le {M : Nat} : ∀ {l : List UInt8} {acc v : Nat}, acc ≤ M → Lib.parseUintM M acc l = .ok v → v ≤ M
  | [], acc, v, h, e => by cases e; exact h
  | c :: r, acc, v, h, e => by
    rw [Lib.parseUintM] at e
    split at e
    · split at e
      · cases e
      · split at e
        · cases e
        · exact parseM_le (by omega) e
    · cases e
theorem numU_in (s : ByteArray) : 0 ≤ numU s ∧ numU s ≤ 4294967295 := by
  unfold numU
  cases h : Lib.parseUintB 32 s.data.toList with
  | ok v =>
    have : v ≤ 4294967295 := by
      unfold Lib.parseUintB at h
      split at h
      · cases h
      · exact parseM_le (Nat.zero_le _) h
    dsimp only; omega
  | range => exact ⟨by decide, by decide⟩
  | _ => exact ⟨by decide, by decide⟩
theorem nums_len {w : List ByteArray} {k : Nat} (hk : k < w.length) : ((w.take k).map numU).length + 1 = ((w.take (k + 1)).map numU).length := by
  rw [List.length_map, List.length_map, List.length_take, List.length_take]; omega
theorem nums_next {w : List ByteArray} {k i : Nat} (hk : k < w.length) (hi : i < ((w.take k).map numU).length + 1) : (bif decide (i < ((w.take k).map numU).length) then ((w.take k).map numU).getD i Dat.d0 else IntKind.i64.wrap (numU (w.getD k Dat.d0))) = ((w.take (k + 1)).map numU).getD i Dat.d0 := by
  have hu := numU_in (w.getD k Dat.d0)
  have e : (w.take (k + 1)).map numU = (w.take k).map numU ++ [numU (w.getD k Dat.d0)] := by
    rw [List.take_add_one, List.getElem?_eq_getElem hk, List.map_append, List.getD_eq_getElem?_getD, List.getElem?_eq_getElem hk]; rfl
  rw [e]
  generalize (w.take k).map numU = l at *
  rw [wrap64_in (show InR _ by unfold InR; omega)]
  by_cases h : i < l.length
  · rw [decide_eq_true h]
    show l.getD i Dat.d0 = _
    simp only [List.getD_eq_getElem?_getD]
    rw [List.getElem?_append_left h]
  · have : i = l.length := by omega
    subst this
    rw [decide_eq_false h]
    show numU _ = _
    rw [show (l ++ [numU (w.getD k Dat.d0)]).getD l.length Dat.d0 = ((l ++ [numU (w.getD k Dat.d0)])[l.length]?).getD Dat.d0 from List.getD_eq_getElem?_getD .., List.getElem?_append_right (Nat.le_refl _), Nat.sub_self]; rfl
structure NmX (w : List ByteArray) where
  k : Nat
  hk : k ≤ w.length
  ha : (w.take k).all okNu = true
noncomputable def cNm : FuncId → Con := fun f => match f with
  | 74 => pureCon (detPC parseU_D)
  | 75 => pureCon (detPC fmtU_D)
  | _ => fun _ _ _ => Bad 1001
theorem cNm_ok : ConOk Tryz.prog cNm := fun f A H K h => by
  unfold cNm at h
  split at h
  · exact ⟨⟨Tryz.f74, Tryz.func74, by kernel_rfl, by kernel_rfl⟩, pureCon_ok parseU_ok h⟩
  · exact ⟨⟨Tryz.f75, Tryz.func75, by kernel_rfl, by kernel_rfl⟩, pureCon_ok fmtU_ok h⟩
  · cases h
def dNm : FuncId → Option Dt := fun f => match f with
  | 75 => some (.c fmtU_D)
  | 74 => some (.c parseU_D)
  | _ => none
theorem dNm_ok : DetOk Tryz.prog dNm := fun f d h => by
  unfold dNm at h
  split at h
  · cases h; exact ⟨⟨Tryz.f75, Tryz.func75, by kernel_rfl, by kernel_rfl⟩, fmtU_ok⟩
  · cases h; exact ⟨⟨Tryz.f74, Tryz.func74, by kernel_rfl, by kernel_rfl⟩, parseU_ok⟩
  · cases h
def numsC_R (r : Th ((List Int) × Bool)) : AV := .tup [.own 0 fun _ => (r ()).1.length, .b fun _ => (r ()).2]
def numsC_H (r : Th ((List Int) × Bool)) : Hp := [vecO 3 fun _ => (r ()).1]
def numsC_P (w : (List ByteArray)) (n : Int) : Prop := w.length ≤ 1048576 ∧ ∀ x ∈ w, x.size ≤ 1048576
def numsC_C : PC := fun A K => match A with
  | [w, .i .i64 n] => Ob (fun _ => Leaf.ok (List ByteArray) w ∧ numsC_P (Leaf.val w) (n ())) (Gen (α := (List Int) × Bool) (fun _ => numsV (Leaf.val w) (n ())) fun r => K (numsC_R fun _ => r) (numsC_H fun _ => r))
  | _ => Bad 1002
set_option maxRecDepth 100000 in
set_option maxHeartbeats 4000000 in
theorem numsC_vc (w : (List ByteArray)) (n : Int) (hp : numsC_P w n) : FnOk Tryz.prog 53 [Leaf.av fun _ => w, .i .i64 fun _ => n] [] (outA (numsC_R fun _ => numsV w n) (numsC_H fun _ => numsV w n)) := by
  refine fn_ok envOk zl cNm_ok (draws_ok envOk zl dNm_ok mixed) (keep := [0, 1, 4, 5, 6, 8, 9, 10, 11, 12, 13, 14, 34]) Tryz.func53 rfl ?_
  obtain ⟨hp1, hp2⟩ : w.length ≤ 1048576 ∧ ∀ x ∈ w, x.size ≤ 1048576 := hp
  have fin0 : ∀ H kl, numsV w n = ([], false) → outA (numsC_R fun _ => numsV w n) (numsC_H fun _ => numsV w n) (.tup [.nil, .bc false]) H kl := fun H kl h => by
    rw [h]
    cbv
    repeat' first | (refine Stp.mk ?_; cbv) | (refine Gen.mk fun r hr => ?_; (try simp only [Dat.ok, Dat.dec, Leaf.ok, Leaf.val, Z0, Z1, Z2, Z3, Z4, Z5, Z6, Z7, val_sl, val_nil] at hr); cbv) | exact trivial | rfl | refine Both.mk ?_ ?_ | (refine Imp.mk fun h => ?_; (try dsimp only at h); (try simp only [nc, Int.toNat_natCast, ne_eq, zz] at h); (try simp only [nc] at h)) | refine Ob.mk ?_ ?_ | refine Chk.mk (by kernel_rfl) ?_ | refine Eq'.mk ?_ | (refine AllN.mk fun i hi => ?_; cbv) | (refine AllC.mk fun c hc hcm => ?_; (try dsimp only at hc); cbv) | (refine AllS.mk fun r hr => ?_; (try simp only [Dat.ok, Dat.dec, Leaf.ok, Leaf.val, Z0, Z1, Z2, Z3, Z4, Z5, Z6, Z7, val_sl] at hr); cbv)
    all_goals first | rfl | (exfalso; omega)
  have fin1 : ∀ (b : PUnit → Bool) kl, w.all okNu = true → decide ((w.length : Int) = n) = b () → outA (numsC_R fun _ => numsV w n) (numsC_H fun _ => numsV w n) (.tup [.own 0 fun _ => (w.map numU).length, .b b]) [vecO 3 fun _ => w.map numU] kl := fun b kl h hb => by
    rw [numsV, if_pos h, hb]
    cbv
    repeat' first | (refine Stp.mk ?_; cbv) | (refine Gen.mk fun r hr => ?_; (try simp only [Dat.ok, Dat.dec, Leaf.ok, Leaf.val, Z0, Z1, Z2, Z3, Z4, Z5, Z6, Z7, val_sl, val_nil] at hr); cbv) | exact trivial | rfl | refine Both.mk ?_ ?_ | (refine Imp.mk fun h => ?_; (try dsimp only at h); (try simp only [nc, Int.toNat_natCast, ne_eq, zz] at h); (try simp only [nc] at h)) | refine Ob.mk ?_ ?_ | refine Chk.mk (by kernel_rfl) ?_ | refine Eq'.mk ?_ | (refine AllN.mk fun i hi => ?_; cbv) | (refine AllC.mk fun c hc hcm => ?_; (try dsimp only at hc); cbv) | (refine AllS.mk fun r hr => ?_; (try simp only [Dat.ok, Dat.dec, Leaf.ok, Leaf.val, Z0, Z1, Z2, Z3, Z4, Z5, Z6, Z7, val_sl] at hr); cbv)
    all_goals first
      | rfl
      | (exact ⟨Nat.le_refl _, Nat.le_refl _⟩)
      | fail
  generalize outA (numsC_R fun _ => numsV w n) (numsC_H fun _ => numsV w n) = K at fin0 fin1 ⊢
  cbv
  repeat' first | (show Stp _; exfalso; first | omega | (exact h ‹_›) | (exact absurd ‹_› h) | (exact Bool.false_ne_true (h.symm.trans (show _ = true by assumption)))) | (refine Stp.mk ?_; cbv) | (refine Gen.mk fun r hr => ?_; (try simp only [Dat.ok, Dat.dec, Leaf.ok, Leaf.val, Z0, Z1, Z2, Z3, Z4, Z5, Z6, Z7, val_sl, val_nil] at hr); cbv) | exact trivial | rfl | refine Both.mk ?_ ?_ | (refine Imp.mk fun h => ?_; (try dsimp only at h); (try simp only [nc, Int.toNat_natCast, ne_eq, zz] at h); (try simp only [nc] at h)) | refine Ob.mk ?_ ?_ | refine Chk.mk (by kernel_rfl) ?_ | refine Eq'.mk ?_ | (refine AllN.mk fun i hi => ?_; cbv) | (refine AllC.mk fun c hc hcm => ?_; (try dsimp only at hc); cbv) | (refine AllS.mk fun r hr => ?_; (try simp only [Dat.ok, Dat.dec, Leaf.ok, Leaf.val, Z0, Z1, Z2, Z3, Z4, Z5, Z6, Z7, val_sl] at hr); cbv)
  all_goals ((try dsimp only at *); (try simp only [nc, Int.toNat_natCast, ne_eq, zz] at *); (try simp only [nc] at *))
  refine LoopVC.frame [4, 5, 6, 8, 9, 10, 13, 14, 34] (NmX w) (fun x => [(13, .i .i64 fun _ => x.k), (6, .own 0 fun _ => ((w.take x.k).map numU).length)]) (fun x => [(0, vecO 3 fun _ => (w.take x.k).map numU)]) [0] (fun x => w.length - x.k) ⟨0, Nat.zero_le _, rfl⟩ rfl (fun _ => rfl) ?_ ?_ fun ⟨k, hk, ha⟩ => ?_
  iterate 2
    · cbv
      repeat' first | (refine Stp.mk ?_; cbv) | (refine Gen.mk fun r hr => ?_; (try simp only [Dat.ok, Dat.dec, Leaf.ok, Leaf.val, Z0, Z1, Z2, Z3, Z4, Z5, Z6, Z7, val_sl, val_nil] at hr); cbv) | exact trivial | rfl | refine Both.mk ?_ ?_ | (refine Imp.mk fun h => ?_; (try dsimp only at h); (try simp only [nc, Int.toNat_natCast, ne_eq, zz] at h); (try simp only [nc] at h)) | refine Ob.mk ?_ ?_ | refine Chk.mk (by kernel_rfl) ?_ | refine Eq'.mk ?_ | (refine AllN.mk fun i hi => ?_; cbv) | (refine AllC.mk fun c hc hcm => ?_; (try dsimp only at hc); cbv) | (refine AllS.mk fun r hr => ?_; (try simp only [Dat.ok, Dat.dec, Leaf.ok, Leaf.val, Z0, Z1, Z2, Z3, Z4, Z5, Z6, Z7, val_sl] at hr); cbv)
  · cbv
    repeat' first | (show Stp _; exfalso; first | omega | (exact h ‹_›) | (exact absurd ‹_› h) | (exact Bool.false_ne_true (h.symm.trans (show _ = true by assumption)))) | (refine Stp.mk ?_; cbv) | (refine Gen.mk fun r hr => ?_; (try simp only [Dat.ok, Dat.dec, Leaf.ok, Leaf.val, Z0, Z1, Z2, Z3, Z4, Z5, Z6, Z7, val_sl, val_nil] at hr); cbv) | exact trivial | rfl | refine Both.mk ?_ ?_ | (refine Imp.mk fun h => ?_; (try dsimp only at h); (try simp only [nc, Int.toNat_natCast, ne_eq, zz] at h); (try simp only [nc] at h)) | refine Ob.mk ?_ ?_ | refine Chk.mk (by kernel_rfl) ?_ | refine Eq'.mk ?_ | (refine AllN.mk fun i hi => ?_; cbv) | (refine AllC.mk fun c hc hcm => ?_; (try dsimp only at hc); cbv) | (refine AllS.mk fun r hr => ?_; (try simp only [Dat.ok, Dat.dec, Leaf.ok, Leaf.val, Z0, Z1, Z2, Z3, Z4, Z5, Z6, Z7, val_sl] at hr); cbv)
    all_goals ((try dsimp only at *); (try simp only [nc, Int.toNat_natCast, ne_eq, zz] at *); (try simp only [nc] at *))
    all_goals try rw [nc] at *
    all_goals try simp only [Dat.dec, Leaf.val, Z0, Z1, Z2, Z3, Z4, Z5, Z6, Z7, val_sl] at *
    all_goals try have hm := hp2 _ (getD_mem' (show k < w.length by omega))
    all_goals have hu := numU_in (w.getD k Dat.d0)
    all_goals have hl : ((w.take k).map numU).length = k := by rw [List.length_map, List.length_take]; omega
    all_goals first
      | omega
      | exact ⟨by omega, by omega⟩
      | (unfold InR; omega)
      | exact ⟨trivial, trivial, by omega⟩
      | exact ⟨trivial, by omega, by omega⟩
      | exact ⟨Nat.le_refl _, Nat.le_refl _, by omega, by omega, Nat.le_refl _⟩
      | (have hk2 : k < w.length := by omega
         refine fin0 _ _ ?_
         rw [numsV, if_neg]
         intro q
         have := pl_get hk2 q
         simp only [okNu, Bool.and_eq_true, decide_eq_true_eq] at this
         first
           | omega
           | exact absurd this.2.2 (by assumption)
           | (have z : okU (w.getD k Dat.d0) = false := by assumption
              exact Bool.noConfusion (z.symm.trans this.1)))
      | (have hk2 : k < w.length := by omega
         have q : okNu (w.getD k Dat.d0) = true := by
           simp only [okNu, Bool.and_eq_true, decide_eq_true_eq]; exact ⟨by assumption, by omega, by assumption⟩
         refine ⟨⟨k + 1, by omega, pl_take hk2 ha q⟩, ?_, ?_, rfl, by (try dsimp only); omega⟩
         · cbv
           repeat' first | (refine Stp.mk ?_; cbv) | (refine Gen.mk fun r hr => ?_; (try simp only [Dat.ok, Dat.dec, Leaf.ok, Leaf.val, Z0, Z1, Z2, Z3, Z4, Z5, Z6, Z7, val_sl, val_nil] at hr); cbv) | exact trivial | rfl | refine Both.mk ?_ ?_ | (refine Imp.mk fun h => ?_; (try dsimp only at h); (try simp only [nc, Int.toNat_natCast, ne_eq, zz] at h); (try simp only [nc] at h)) | refine Ob.mk ?_ ?_ | refine Chk.mk (by kernel_rfl) ?_ | refine Eq'.mk ?_ | (refine AllN.mk fun i hi => ?_; cbv) | (refine AllC.mk fun c hc hcm => ?_; (try dsimp only at hc); cbv) | (refine AllS.mk fun r hr => ?_; (try simp only [Dat.ok, Dat.dec, Leaf.ok, Leaf.val, Z0, Z1, Z2, Z3, Z4, Z5, Z6, Z7, val_sl] at hr); cbv)
           all_goals exact nums_len hk2
         · cbv
           repeat' first | (refine Stp.mk ?_; cbv) | (refine Gen.mk fun r hr => ?_; (try simp only [Dat.ok, Dat.dec, Leaf.ok, Leaf.val, Z0, Z1, Z2, Z3, Z4, Z5, Z6, Z7, val_sl, val_nil] at hr); cbv) | exact trivial | rfl | refine Both.mk ?_ ?_ | (refine Imp.mk fun h => ?_; (try dsimp only at h); (try simp only [nc, Int.toNat_natCast, ne_eq, zz] at h); (try simp only [nc] at h)) | refine Ob.mk ?_ ?_ | refine Chk.mk (by kernel_rfl) ?_ | refine Eq'.mk ?_ | (refine AllN.mk fun i hi => ?_; cbv) | (refine AllC.mk fun c hc hcm => ?_; (try dsimp only at hc); cbv) | (refine AllS.mk fun r hr => ?_; (try simp only [Dat.ok, Dat.dec, Leaf.ok, Leaf.val, Z0, Z1, Z2, Z3, Z4, Z5, Z6, Z7, val_sl] at hr); cbv)
           all_goals first
             | exact nums_len hk2
             | exact nums_next hk2 hi
             | fail)
      | (have e1 : w.take k = w := List.take_of_length_le (by omega)
         rw [e1] at ha hl
         rw [e1]
         refine fin1 _ _ ha ?_
         rw [hl]; show decide _ = decide _; congr 1; exact propext ⟨fun h => by omega, fun h => by omega⟩)
      | fail
theorem numsC_ok : PcOk Tryz.prog 53 (numsC_C) := fun A K h => by
  unfold numsC_C at h
  split at h
  · rename_i w n
    cases h with
    | mk h1 h2 =>
      obtain ⟨g0, hp⟩ := h1
      refine FnOk.pre ?_ (A' := [Leaf.av fun _ => (Leaf.val w : (List ByteArray)), .i .i64 fun _ => n ()]) (.mk (Leaf.hle _ g0) (.mk (.mk (.mk rfl) (.mk rfl)) (trivial)))
      exact FnOk.out (K := fun r H _ => K r H) (numsC_vc (Leaf.val w) (n ()) hp) rfl h2.out
  · cases h

end Go.Proofs.YtnjngpjkhddnfaaGreatDoor
