/- The program's functions, walked: Span. -/
import Derived.Test.YtnjngpjkhddnfaaGreatDoorTy
set_option linter.all false
namespace Go.Proofs.YtnjngpjkhddnfaaGreatDoor
open Go Go.Abs
/- What the functions of package span compute. -/
def sizeB (n : Int) : Bool := decide (1 ≤ n) && decide (n ≤ 1000000)
def okSp (size : Int) : Int → List Span → Bool
 | _, [] => true
 | last, x :: r => decide (last < x.frm) && decide (x.frm < x.to) && decide (x.to ≤ size) && okSp size x.to r
def checkV (s : Set) : Int := if sizeB s.size = true then (if 200 < s.spans.length then 2 else if okSp s.size (-1) s.spans = true then 0 else 4) else 1
def mx0 (n : Int) : Int := if n > 0 then n else 0
theorem mx0_nn (n : Int) : 0 ≤ mx0 n := by unfold mx0; split <;> omega
def mn (a b : Int) : Int := if b < a then b else a
def long : List Span → Int
 | [] => 0
 | x :: r => (x.to - x.frm) + long r
def part (t : Int) : List Span → Int
 | [] => 0
 | x :: r => mx0 (mn x.to t - x.frm) + part t r
def uptoV (s : Set) (t : Int) : Int := t.tdiv s.size * long s.spans + part (t.tmod s.size) s.spans
def countV (s : Set) (a b : Int) : Int × Int :=
 if checkV s = 0 then (if a < 0 ∨ b < a ∨ 1099511627776 < b then (0, 1) else (uptoV s b - uptoV s a, 0)) else (0, checkV s)

structure Right (s : Set) : Prop where
 s1 : 1 ≤ s.size
 s2 : s.size ≤ 1000000
 len : s.spans.length ≤ 200
 ok : okSp s.size (-1) s.spans = true
theorem check_iff {s : Set} : checkV s = 0 ↔ Right s := by
 unfold checkV sizeB
 constructor
 · intro h
   split at h
   · rename_i h1
     simp only [Bool.and_eq_true, decide_eq_true_eq] at h1
     split at h
     · cases h
     · split at h
       · exact ⟨h1.1, h1.2, by omega, by assumption⟩
       · cases h
   · cases h
 · rintro ⟨h1, h2, h3, h4⟩
   simp [h1, h2, h4]; omega
theorem okSp_iff {size last : Int} {x : Span} {r : List Span} : okSp size last (x :: r) = true ↔ last < x.frm ∧ x.frm < x.to ∧ x.to ≤ size ∧ okSp size x.to r = true := by
 simp [okSp, and_assoc]
theorem okSp_bd {size : Int} : ∀ {l : List Span} {last : Int}, okSp size last l = true → 0 ≤ long l ∧ (l ≠ [] → long l + last < size) ∧ ∀ x ∈ l, last < x.frm ∧ x.frm < x.to ∧ x.to ≤ size
 | [], _, _ => ⟨Int.le_refl _, fun h => absurd rfl h, by simp⟩
 | x :: r, last, h => by
   obtain ⟨h1, h2, h3, h4⟩ := okSp_iff.1 h
   obtain ⟨i1, i2, i3⟩ := okSp_bd h4
   refine ⟨by simp only [long]; omega, fun _ => ?_, fun y hy => ?_⟩
   · simp only [long]
     by_cases hr : r = []
     · subst hr; simp [long]; omega
     · have := i2 hr; omega
   · rcases List.mem_cons.1 hy with rfl | hy
     · exact ⟨h1, h2, h3⟩
     · have := i3 y hy; exact ⟨by omega, this.2⟩
theorem long_nn {size last : Int} {l : List Span} (h : ∀ x ∈ l, last < x.frm ∧ x.frm < x.to ∧ x.to ≤ size) : 0 ≤ long l := by
 induction l with
 | nil => exact Int.le_refl _
 | cons x r ih =>
   have h1 := h x (by simp)
   have h2 := ih fun y hy => h y (by simp [hy])
   simp only [long]; omega
theorem part_bd {t : Int} {l : List Span} (h : ∀ x ∈ l, x.frm < x.to) : 0 ≤ part t l ∧ part t l ≤ long l := by
 induction l with
 | nil => exact ⟨Int.le_refl _, Int.le_refl _⟩
 | cons x r ih =>
   have h1 := h x (by simp)
   have h2 := ih fun y hy => h y (by simp [hy])
   simp only [long, part, mx0, mn]
   constructor <;> (repeat' split) <;> omega

def sizeC_R (r : Th (Bool)) : AV := .b fun _ => (r ())
def sizeC_D : Det := fun A => match A with
 | [.i .i64 n] => some (fun _ => True, sizeC_R fun _ => sizeB (n ()))
 | _ => none
def check_R (r : Th (Int)) : AV := .i .i64 fun _ => (r ())
def check_P (s : Set) : Prop := s.spans.length ≤ 9223372036854775807
def check_D : Det := fun A => match A with
 | [.agg s] => some (fun _ => Dat.ok Set s ∧ check_P (Dat.dec s), check_R fun _ => checkV (Dat.dec s))
 | _ => none
def upto_R (r : Th (Int)) : AV := .i .i64 fun _ => (r ())
def upto_P (s : Set) (t : Int) : Prop := Right s ∧ 0 ≤ t ∧ t ≤ 1099511627776
def upto_D : Det := fun A => match A with
 | [.agg s, .i .i64 t] => some (fun _ => Dat.ok Set s ∧ upto_P (Dat.dec s) (t ()), upto_R fun _ => uptoV (Dat.dec s) (t ()))
 | _ => none
def count_R (r : Th (Int × Int)) : AV := .tup [.i .i64 fun _ => (r ()).1, .i .i64 fun _ => (r ()).2]
def count_P (s : Set) (a : Int) (b : Int) : Prop := s.spans.length ≤ 9223372036854775807
def count_D : Det := fun A => match A with
 | [.agg s, .i .i64 a, .i .i64 b] => some (fun _ => Dat.ok Set s ∧ count_P (Dat.dec s) (a ()) (b ()), count_R fun _ => countV (Dat.dec s) (a ()) (b ()))
 | _ => none

set_option maxRecDepth 100000 in
set_option maxHeartbeats 4000000 in
theorem sizeC_vc (n : Int) : FnOk Tryz.prog 64 [.i .i64 fun _ => n] [] (outA (sizeC_R fun _ => sizeB n) []) := by
 refine fn_ok envOk zl noCon_ok noDraws_ok (keep := [0, 2]) Tryz.func64 rfl ?_
 cbv
 repeat' first | (refine Stp.mk ?_; cbv) | (refine Gen.mk fun r hr => ?_; (try simp only [Dat.ok, Dat.dec, Leaf.ok, Leaf.val, Z0, Z1, Z2, Z3, Z4, Z5, Z6, Z7, val_sl, val_nil] at hr); cbv) | exact trivial | rfl | refine Both.mk ?_ ?_ | (refine Imp.mk fun h => ?_; (try dsimp only at h); (try simp only [nc, Int.toNat_natCast, ne_eq, zz] at h); (try simp only [nc] at h)) | refine Ob.mk ?_ ?_ | refine Chk.mk (by kernel_rfl) ?_ | refine Eq'.mk ?_ | (refine AllN.mk fun i hi => ?_; cbv) | (refine AllC.mk fun c hc hcm => ?_; (try dsimp only at hc); cbv) | (refine AllS.mk fun r hr => ?_; (try simp only [Dat.ok, Dat.dec, Leaf.ok, Leaf.val, Z0, Z1, Z2, Z3, Z4, Z5, Z6, Z7, val_sl] at hr); cbv)
 all_goals ((try dsimp only at *); (try simp only [nc, Int.toNat_natCast, ne_eq, zz] at *); (try simp only [nc] at *))
 all_goals simp_all [sizeB]
 all_goals omega
theorem sizeC_ok : PcOk Tryz.prog 64 (detPC sizeC_D) := det_okA fun A p r h hp0 => by
 unfold sizeC_D at h
 split at h
 · rename_i n
   cases h
   exact ⟨rfl, FnOk.pre (A' := [.i .i64 fun _ => n ()]) (sizeC_vc (n ())) (.mk (.mk (.mk rfl) (.mk rfl)) (trivial))⟩
 · cases h
noncomputable def conA : FuncId → Con := fun f => match f with
 | 64 => pureCon (detPC sizeC_D)
 | _ => fun _ _ _ => Bad 1001
theorem conA_ok : ConOk Tryz.prog conA := fun f A H K h => by
 unfold conA at h
 split at h
 · exact ⟨⟨Tryz.f64, Tryz.func64, by kernel_rfl, by kernel_rfl⟩, pureCon_ok sizeC_ok h⟩
 · cases h

structure ChX (s : Set) where
 k : Nat
 last : Int
 hk : k ≤ s.spans.length
 hr : okSp s.size (-1) s.spans = okSp s.size last (s.spans.drop k)
set_option maxRecDepth 100000 in
set_option maxHeartbeats 4000000 in
theorem check_vc (s : Set) (hp : check_P s) : FnOk Tryz.prog 46 [.agg (Dat.enc fun _ => s)] [] (outA (check_R fun _ => checkV s) []) := by
 refine fn_ok envOk zl conA_ok noDraws_ok (keep := [0, 1, 2, 3, 5, 9, 13, 15, 16, 17, 18, 38]) Tryz.func46 rfl ?_
 have hp' : s.spans.length ≤ 9223372036854775807 := hp
 have fin : ∀ e H kl, e = checkV s → outA (check_R fun _ => checkV s) [] (.i .i64 fun _ => e) H kl := by
   rintro e H kl rfl
   cbv
   repeat' first | (refine Stp.mk ?_; cbv) | (refine Gen.mk fun r hr => ?_; (try simp only [Dat.ok, Dat.dec, Leaf.ok, Leaf.val, Z0, Z1, Z2, Z3, Z4, Z5, Z6, Z7, val_sl, val_nil] at hr); cbv) | exact trivial | rfl | refine Both.mk ?_ ?_ | (refine Imp.mk fun h => ?_; (try dsimp only at h); (try simp only [nc, Int.toNat_natCast, ne_eq, zz] at h); (try simp only [nc] at h)) | refine Ob.mk ?_ ?_ | refine Chk.mk (by kernel_rfl) ?_ | refine Eq'.mk ?_ | (refine AllN.mk fun i hi => ?_; cbv) | (refine AllC.mk fun c hc hcm => ?_; (try dsimp only at hc); cbv) | (refine AllS.mk fun r hr => ?_; (try simp only [Dat.ok, Dat.dec, Leaf.ok, Leaf.val, Z0, Z1, Z2, Z3, Z4, Z5, Z6, Z7, val_sl] at hr); cbv)
 generalize outA (check_R fun _ => checkV s) [] = K at fin
 cbv
 repeat' first | (refine Stp.mk ?_; cbv) | (refine Gen.mk fun r hr => ?_; (try simp only [Dat.ok, Dat.dec, Leaf.ok, Leaf.val, Z0, Z1, Z2, Z3, Z4, Z5, Z6, Z7, val_sl, val_nil] at hr); cbv) | exact trivial | rfl | refine Both.mk ?_ ?_ | (refine Imp.mk fun h => ?_; (try dsimp only at h); (try simp only [nc, Int.toNat_natCast, ne_eq, zz] at h); (try simp only [nc] at h)) | refine Ob.mk ?_ ?_ | refine Chk.mk (by kernel_rfl) ?_ | refine Eq'.mk ?_ | (refine AllN.mk fun i hi => ?_; cbv) | (refine AllC.mk fun c hc hcm => ?_; (try dsimp only at hc); cbv) | (refine AllS.mk fun r hr => ?_; (try simp only [Dat.ok, Dat.dec, Leaf.ok, Leaf.val, Z0, Z1, Z2, Z3, Z4, Z5, Z6, Z7, val_sl] at hr); cbv)
 all_goals ((try dsimp only at *); (try simp only [nc, Int.toNat_natCast, ne_eq, zz] at *); (try simp only [nc] at *))
 all_goals first
   | (refine fin _ _ _ ?_; simp_all [checkV]; done)
   | skip
 · refine fin _ _ _ ?_
   rw [checkV, if_pos (by assumption), if_pos (by omega)]
 · have hs : sizeB s.size = true := by assumption
   refine LoopVC.frame [2, 3, 5, 17, 18, 38] (ChX s) (fun x => [(17, .i .i64 fun _ => x.k), (3, .i .i64 fun _ => x.last)]) (fun _ => []) [] (fun x => s.spans.length - x.k) ⟨0, -1, Nat.zero_le _, by simp⟩ rfl (fun _ => rfl) ?_ ?_ fun ⟨k, last, hk, hr⟩ => ?_
   iterate 2
     · cbv
       repeat' first | (refine Stp.mk ?_; cbv) | (refine Gen.mk fun r hr => ?_; (try simp only [Dat.ok, Dat.dec, Leaf.ok, Leaf.val, Z0, Z1, Z2, Z3, Z4, Z5, Z6, Z7, val_sl, val_nil] at hr); cbv) | exact trivial | rfl | refine Both.mk ?_ ?_ | (refine Imp.mk fun h => ?_; (try dsimp only at h); (try simp only [nc, Int.toNat_natCast, ne_eq, zz] at h); (try simp only [nc] at h)) | refine Ob.mk ?_ ?_ | refine Chk.mk (by kernel_rfl) ?_ | refine Eq'.mk ?_ | (refine AllN.mk fun i hi => ?_; cbv) | (refine AllC.mk fun c hc hcm => ?_; (try dsimp only at hc); cbv) | (refine AllS.mk fun r hr => ?_; (try simp only [Dat.ok, Dat.dec, Leaf.ok, Leaf.val, Z0, Z1, Z2, Z3, Z4, Z5, Z6, Z7, val_sl] at hr); cbv)
   · cbv
     repeat' first | (refine Stp.mk ?_; cbv) | (refine Gen.mk fun r hr => ?_; (try simp only [Dat.ok, Dat.dec, Leaf.ok, Leaf.val, Z0, Z1, Z2, Z3, Z4, Z5, Z6, Z7, val_sl, val_nil] at hr); cbv) | exact trivial | rfl | refine Both.mk ?_ ?_ | (refine Imp.mk fun h => ?_; (try dsimp only at h); (try simp only [nc, Int.toNat_natCast, ne_eq, zz] at h); (try simp only [nc] at h)) | refine Ob.mk ?_ ?_ | refine Chk.mk (by kernel_rfl) ?_ | refine Eq'.mk ?_ | (refine AllN.mk fun i hi => ?_; cbv) | (refine AllC.mk fun c hc hcm => ?_; (try dsimp only at hc); cbv) | (refine AllS.mk fun r hr => ?_; (try simp only [Dat.ok, Dat.dec, Leaf.ok, Leaf.val, Z0, Z1, Z2, Z3, Z4, Z5, Z6, Z7, val_sl] at hr); cbv)
     all_goals ((try dsimp only at *); (try simp only [nc, Int.toNat_natCast, ne_eq, zz] at *); (try simp only [nc] at *))
     all_goals first
       | omega
       | (unfold InR; omega)
       | (refine fin _ _ _ ?_
          have h0 : okSp s.size (-1) s.spans = false := by
            rw [hr, drop_cons Dat.d0 (by omega)]
            apply Bool.eq_false_iff.2
            rw [ne_eq, okSp_iff]
            omega
          rw [checkV, if_pos hs, if_neg (by omega), h0]; rfl)
       | (refine fin _ _ _ ?_
          rw [checkV, if_pos hs, if_neg (by omega), hr, drop_nil (by omega)]; rfl)
       | (refine ⟨⟨k + 1, (s.spans.getD k Dat.d0).to, by omega, ?_⟩, ?_, ?_, rfl, by (try dsimp only); omega⟩
          · rw [hr, drop_cons Dat.d0 (by omega), okSp]
            simp [-List.getD_eq_getElem?_getD]
            intros; omega
          · cbv
            repeat' first | (refine Stp.mk ?_; cbv) | (refine Gen.mk fun r hr => ?_; (try simp only [Dat.ok, Dat.dec, Leaf.ok, Leaf.val, Z0, Z1, Z2, Z3, Z4, Z5, Z6, Z7, val_sl, val_nil] at hr); cbv) | exact trivial | rfl | refine Both.mk ?_ ?_ | (refine Imp.mk fun h => ?_; (try dsimp only at h); (try simp only [nc, Int.toNat_natCast, ne_eq, zz] at h); (try simp only [nc] at h)) | refine Ob.mk ?_ ?_ | refine Chk.mk (by kernel_rfl) ?_ | refine Eq'.mk ?_ | (refine AllN.mk fun i hi => ?_; cbv) | (refine AllC.mk fun c hc hcm => ?_; (try dsimp only at hc); cbv) | (refine AllS.mk fun r hr => ?_; (try simp only [Dat.ok, Dat.dec, Leaf.ok, Leaf.val, Z0, Z1, Z2, Z3, Z4, Z5, Z6, Z7, val_sl] at hr); cbv)
          · cbv
            repeat' first | (refine Stp.mk ?_; cbv) | (refine Gen.mk fun r hr => ?_; (try simp only [Dat.ok, Dat.dec, Leaf.ok, Leaf.val, Z0, Z1, Z2, Z3, Z4, Z5, Z6, Z7, val_sl, val_nil] at hr); cbv) | exact trivial | rfl | refine Both.mk ?_ ?_ | (refine Imp.mk fun h => ?_; (try dsimp only at h); (try simp only [nc, Int.toNat_natCast, ne_eq, zz] at h); (try simp only [nc] at h)) | refine Ob.mk ?_ ?_ | refine Chk.mk (by kernel_rfl) ?_ | refine Eq'.mk ?_ | (refine AllN.mk fun i hi => ?_; cbv) | (refine AllC.mk fun c hc hcm => ?_; (try dsimp only at hc); cbv) | (refine AllS.mk fun r hr => ?_; (try simp only [Dat.ok, Dat.dec, Leaf.ok, Leaf.val, Z0, Z1, Z2, Z3, Z4, Z5, Z6, Z7, val_sl] at hr); cbv))
theorem check_ok : PcOk Tryz.prog 46 (detPC check_D) := det_okA fun A p r h hp0 => by
 unfold check_D at h
 split at h
 · rename_i s
   cases h
   obtain ⟨g0, hp⟩ := hp0
   exact ⟨rfl, FnOk.pre (A' := [.agg (Dat.enc fun _ => (Dat.dec s : Set))]) (check_vc (Dat.dec s) hp) (.mk (Dat.hle _ g0) (trivial))⟩
 · cases h

structure UpX (s : Set) where
 k : Nat
 n : Int
 hk : k ≤ s.spans.length
 h0 : 0 ≤ n
 hr : long s.spans = n + long (s.spans.drop k)
structure PaX (s : Set) (t c : Int) where
 k : Nat
 n : Int
 hk : k ≤ s.spans.length
 h0 : c ≤ n
 hr : c + part t s.spans = n + part t (s.spans.drop k)
theorem right_get {s : Set} (h : Right s) {k : Nat} (hk : k < s.spans.length) : 0 ≤ (s.spans.getD k Dat.d0).frm ∧ (s.spans.getD k Dat.d0).frm < (s.spans.getD k Dat.d0).to ∧ (s.spans.getD k Dat.d0).to ≤ s.size := by
 have := (okSp_bd h.ok).2.2 (s.spans.getD k Dat.d0) (by rw [List.getD_eq_getElem?_getD, List.getElem?_eq_getElem hk]; exact List.getElem_mem hk)
 omega
theorem right_drop {s : Set} (h : Right s) (k : Nat) : ∀ x ∈ s.spans.drop k, -1 < x.frm ∧ x.frm < x.to ∧ x.to ≤ s.size := fun x hx => (okSp_bd h.ok).2.2 x (List.mem_of_mem_drop hx)
theorem right_long {s : Set} (h : Right s) : 0 ≤ long s.spans ∧ long s.spans ≤ s.size := by
 obtain ⟨h1, h2, h3⟩ := okSp_bd h.ok
 refine ⟨h1, ?_⟩
 by_cases h4 : s.spans = []
 · rw [h4]; simp [long]; have := h.s1; omega
 · have := h2 h4; omega
theorem div_long {s : Set} (h : Right s) {t : Int} (h0 : 0 ≤ t) : 0 ≤ t.tdiv s.size * long s.spans ∧ t.tdiv s.size * long s.spans ≤ t := by
 obtain ⟨h1, h2⟩ := right_long h
 have h3 := h.s1
 rw [Int.tdiv_eq_ediv_of_nonneg h0]
 have h4 : 0 ≤ t / s.size := Int.ediv_nonneg h0 (by omega)
 refine ⟨Int.mul_nonneg h4 h1, ?_⟩
 have h5 : t / s.size * long s.spans ≤ t / s.size * s.size := Int.mul_le_mul_of_nonneg_left h2 h4
 have h6 := Int.ediv_mul_le t (show s.size ≠ 0 by omega)
 omega
set_option maxRecDepth 100000 in
set_option maxHeartbeats 4000000 in
theorem upto_vc (s : Set) (t : Int) (hp : upto_P s t) : FnOk Tryz.prog 127 [.agg (Dat.enc fun _ => s), .i .i64 fun _ => t] [] (outA (upto_R fun _ => uptoV s t) []) := by
 refine fn_ok envOk zl noCon_ok noDraws_ok (keep := [0, 1, 2, 4, 5, 7, 8, 10, 12, 13, 14, 15, 37, 38, 39, 40]) Tryz.func127 rfl ?_
 obtain ⟨hs, ht0, ht1⟩ := hp
 have hs1 := hs.s1
 have hs2 := hs.s2
 have hs3 := hs.len
 have hlo := right_long hs
 have hdl := div_long hs ht0
 have hmd : 0 ≤ t.tmod s.size ∧ t.tmod s.size < s.size := ⟨Int.tmod_nonneg _ ht0, Int.tmod_lt_of_pos _ (by omega)⟩
 have hdv : 0 ≤ t.tdiv s.size ∧ t.tdiv s.size ≤ t := by
   rw [Int.tdiv_eq_ediv_of_nonneg ht0]
   exact ⟨Int.ediv_nonneg ht0 (by omega), Int.ediv_le_self _ ht0⟩
 have fin : ∀ e H kl, e = uptoV s t → outA (upto_R fun _ => uptoV s t) [] (.i .i64 fun _ => e) H kl := by
   rintro e H kl rfl
   cbv
   repeat' first | (refine Stp.mk ?_; cbv) | (refine Gen.mk fun r hr => ?_; (try simp only [Dat.ok, Dat.dec, Leaf.ok, Leaf.val, Z0, Z1, Z2, Z3, Z4, Z5, Z6, Z7, val_sl, val_nil] at hr); cbv) | exact trivial | rfl | refine Both.mk ?_ ?_ | (refine Imp.mk fun h => ?_; (try dsimp only at h); (try simp only [nc, Int.toNat_natCast, ne_eq, zz] at h); (try simp only [nc] at h)) | refine Ob.mk ?_ ?_ | refine Chk.mk (by kernel_rfl) ?_ | refine Eq'.mk ?_ | (refine AllN.mk fun i hi => ?_; cbv) | (refine AllC.mk fun c hc hcm => ?_; (try dsimp only at hc); cbv) | (refine AllS.mk fun r hr => ?_; (try simp only [Dat.ok, Dat.dec, Leaf.ok, Leaf.val, Z0, Z1, Z2, Z3, Z4, Z5, Z6, Z7, val_sl] at hr); cbv)
 generalize outA (upto_R fun _ => uptoV s t) [] = K at fin
 cbv
 refine LoopVC.frame [5, 7, 14, 15] (UpX s) (fun x => [(14, .i .i64 fun _ => x.k), (5, .i .i64 fun _ => x.n)]) (fun _ => []) [] (fun x => s.spans.length - x.k) ⟨0, 0, Nat.zero_le _, Int.le_refl _, by simp⟩ rfl (fun _ => rfl) ?_ ?_ fun ⟨k, n, hk, h0, hr⟩ => ?_
 iterate 2
   · cbv
     repeat' first | (refine Stp.mk ?_; cbv) | (refine Gen.mk fun r hr => ?_; (try simp only [Dat.ok, Dat.dec, Leaf.ok, Leaf.val, Z0, Z1, Z2, Z3, Z4, Z5, Z6, Z7, val_sl, val_nil] at hr); cbv) | exact trivial | rfl | refine Both.mk ?_ ?_ | (refine Imp.mk fun h => ?_; (try dsimp only at h); (try simp only [nc, Int.toNat_natCast, ne_eq, zz] at h); (try simp only [nc] at h)) | refine Ob.mk ?_ ?_ | refine Chk.mk (by kernel_rfl) ?_ | refine Eq'.mk ?_ | (refine AllN.mk fun i hi => ?_; cbv) | (refine AllC.mk fun c hc hcm => ?_; (try dsimp only at hc); cbv) | (refine AllS.mk fun r hr => ?_; (try simp only [Dat.ok, Dat.dec, Leaf.ok, Leaf.val, Z0, Z1, Z2, Z3, Z4, Z5, Z6, Z7, val_sl] at hr); cbv)
 have hdk := long_nn (right_drop hs k)
 cbv
 repeat' first | (refine Stp.mk ?_; cbv) | (refine Gen.mk fun r hr => ?_; (try simp only [Dat.ok, Dat.dec, Leaf.ok, Leaf.val, Z0, Z1, Z2, Z3, Z4, Z5, Z6, Z7, val_sl, val_nil] at hr); cbv) | exact trivial | rfl | refine Both.mk ?_ ?_ | (refine Imp.mk fun h => ?_; (try dsimp only at h); (try simp only [nc, Int.toNat_natCast, ne_eq, zz] at h); (try simp only [nc] at h)) | refine Ob.mk ?_ ?_ | refine Chk.mk (by kernel_rfl) ?_ | refine Eq'.mk ?_ | (refine AllN.mk fun i hi => ?_; cbv) | (refine AllC.mk fun c hc hcm => ?_; (try dsimp only at hc); cbv) | (refine AllS.mk fun r hr => ?_; (try simp only [Dat.ok, Dat.dec, Leaf.ok, Leaf.val, Z0, Z1, Z2, Z3, Z4, Z5, Z6, Z7, val_sl] at hr); cbv)
 all_goals ((try dsimp only at *); (try simp only [nc, Int.toNat_natCast, ne_eq, zz] at *); (try simp only [nc] at *))
 all_goals try have hkl : k < s.spans.length := by omega
 all_goals try have hg := right_get hs hkl
 all_goals try rw [drop_cons Dat.d0 hkl, long] at hr
 all_goals try have hdk2 := long_nn (right_drop hs (k + 1))
 all_goals first
   | omega
   | (unfold InR; omega)
   | (refine ⟨by omega, ?_⟩; unfold InR; omega)
   | (refine ⟨⟨k + 1, n + ((s.spans.getD k Dat.d0).to - (s.spans.getD k Dat.d0).frm), by omega, by omega, by omega⟩, ?_, ?_, rfl, by (try dsimp only); omega⟩
      · cbv
        repeat' first | (refine Stp.mk ?_; cbv) | (refine Gen.mk fun r hr => ?_; (try simp only [Dat.ok, Dat.dec, Leaf.ok, Leaf.val, Z0, Z1, Z2, Z3, Z4, Z5, Z6, Z7, val_sl, val_nil] at hr); cbv) | exact trivial | rfl | refine Both.mk ?_ ?_ | (refine Imp.mk fun h => ?_; (try dsimp only at h); (try simp only [nc, Int.toNat_natCast, ne_eq, zz] at h); (try simp only [nc] at h)) | refine Ob.mk ?_ ?_ | refine Chk.mk (by kernel_rfl) ?_ | refine Eq'.mk ?_ | (refine AllN.mk fun i hi => ?_; cbv) | (refine AllC.mk fun c hc hcm => ?_; (try dsimp only at hc); cbv) | (refine AllS.mk fun r hr => ?_; (try simp only [Dat.ok, Dat.dec, Leaf.ok, Leaf.val, Z0, Z1, Z2, Z3, Z4, Z5, Z6, Z7, val_sl] at hr); cbv)
      · cbv
        repeat' first | (refine Stp.mk ?_; cbv) | (refine Gen.mk fun r hr => ?_; (try simp only [Dat.ok, Dat.dec, Leaf.ok, Leaf.val, Z0, Z1, Z2, Z3, Z4, Z5, Z6, Z7, val_sl, val_nil] at hr); cbv) | exact trivial | rfl | refine Both.mk ?_ ?_ | (refine Imp.mk fun h => ?_; (try dsimp only at h); (try simp only [nc, Int.toNat_natCast, ne_eq, zz] at h); (try simp only [nc] at h)) | refine Ob.mk ?_ ?_ | refine Chk.mk (by kernel_rfl) ?_ | refine Eq'.mk ?_ | (refine AllN.mk fun i hi => ?_; cbv) | (refine AllC.mk fun c hc hcm => ?_; (try dsimp only at hc); cbv) | (refine AllS.mk fun r hr => ?_; (try simp only [Dat.ok, Dat.dec, Leaf.ok, Leaf.val, Z0, Z1, Z2, Z3, Z4, Z5, Z6, Z7, val_sl] at hr); cbv))
   | skip
 all_goals have hn : n = long s.spans := by rw [drop_nil (by omega)] at hr; simp only [long] at hr; omega
 all_goals subst hn
 · unfold InR; omega
 refine LoopVC.frame [8, 10, 39, 40] (PaX s (t.tmod s.size) (t.tdiv s.size * long s.spans)) (fun x => [(39, .i .i64 fun _ => x.k), (8, .i .i64 fun _ => x.n)]) (fun _ => []) [] (fun x => s.spans.length - x.k) ⟨0, t.tdiv s.size * long s.spans, Nat.zero_le _, Int.le_refl _, by simp⟩ rfl (fun _ => rfl) ?_ ?_ fun ⟨k2, n2, hk2, h02, hr2⟩ => ?_
 iterate 2
   · cbv
     repeat' first | (refine Stp.mk ?_; cbv) | (refine Gen.mk fun r hr => ?_; (try simp only [Dat.ok, Dat.dec, Leaf.ok, Leaf.val, Z0, Z1, Z2, Z3, Z4, Z5, Z6, Z7, val_sl, val_nil] at hr); cbv) | exact trivial | rfl | refine Both.mk ?_ ?_ | (refine Imp.mk fun h => ?_; (try dsimp only at h); (try simp only [nc, Int.toNat_natCast, ne_eq, zz] at h); (try simp only [nc] at h)) | refine Ob.mk ?_ ?_ | refine Chk.mk (by kernel_rfl) ?_ | refine Eq'.mk ?_ | (refine AllN.mk fun i hi => ?_; cbv) | (refine AllC.mk fun c hc hcm => ?_; (try dsimp only at hc); cbv) | (refine AllS.mk fun r hr => ?_; (try simp only [Dat.ok, Dat.dec, Leaf.ok, Leaf.val, Z0, Z1, Z2, Z3, Z4, Z5, Z6, Z7, val_sl] at hr); cbv)
 have hpd := part_bd (t := t.tmod s.size) fun x hx => (right_drop hs k2 x hx).2.1
 have hpa := part_bd (t := t.tmod s.size) (l := s.spans) fun x hx => ((okSp_bd hs.ok).2.2 x hx).2.1
 cbv
 repeat' first | (refine Stp.mk ?_; cbv) | (refine Gen.mk fun r hr => ?_; (try simp only [Dat.ok, Dat.dec, Leaf.ok, Leaf.val, Z0, Z1, Z2, Z3, Z4, Z5, Z6, Z7, val_sl, val_nil] at hr); cbv) | exact trivial | rfl | refine Both.mk ?_ ?_ | (refine Imp.mk fun h => ?_; (try dsimp only at h); (try simp only [nc, Int.toNat_natCast, ne_eq, zz] at h); (try simp only [nc] at h)) | refine Ob.mk ?_ ?_ | refine Chk.mk (by kernel_rfl) ?_ | refine Eq'.mk ?_ | (refine AllN.mk fun i hi => ?_; cbv) | (refine AllC.mk fun c hc hcm => ?_; (try dsimp only at hc); cbv) | (refine AllS.mk fun r hr => ?_; (try simp only [Dat.ok, Dat.dec, Leaf.ok, Leaf.val, Z0, Z1, Z2, Z3, Z4, Z5, Z6, Z7, val_sl] at hr); cbv)
 all_goals ((try dsimp only at *); (try simp only [nc, Int.toNat_natCast, ne_eq, zz] at *); (try simp only [nc] at *))
 all_goals try have hkl : k2 < s.spans.length := by omega
 all_goals try have hg := right_get hs hkl
 all_goals try rw [drop_cons Dat.d0 hkl, part] at hr2
 all_goals try have hpd2 := part_bd (t := t.tmod s.size) fun x hx => (right_drop hs (k2 + 1) x hx).2.1
 all_goals try have hm := mx0_nn (mn (s.spans.getD k2 Dat.d0).to (t.tmod s.size) - (s.spans.getD k2 Dat.d0).frm)
 all_goals first
   | omega
   | (unfold InR; omega)
   | (unfold InR; constructor <;> split <;> omega)
   | (change InR (n2 + mx0 (mn (s.spans.getD k2 Dat.d0).to (t.tmod s.size) - (s.spans.getD k2 Dat.d0).frm)); unfold InR; omega)
   | (refine ⟨⟨k2 + 1, n2 + mx0 (mn (s.spans.getD k2 Dat.d0).to (t.tmod s.size) - (s.spans.getD k2 Dat.d0).frm), by omega, by omega, by omega⟩, ?_, ?_, rfl, by (try dsimp only); omega⟩
      · cbv
        repeat' first | (refine Stp.mk ?_; cbv) | (refine Gen.mk fun r hr => ?_; (try simp only [Dat.ok, Dat.dec, Leaf.ok, Leaf.val, Z0, Z1, Z2, Z3, Z4, Z5, Z6, Z7, val_sl, val_nil] at hr); cbv) | exact trivial | rfl | refine Both.mk ?_ ?_ | (refine Imp.mk fun h => ?_; (try dsimp only at h); (try simp only [nc, Int.toNat_natCast, ne_eq, zz] at h); (try simp only [nc] at h)) | refine Ob.mk ?_ ?_ | refine Chk.mk (by kernel_rfl) ?_ | refine Eq'.mk ?_ | (refine AllN.mk fun i hi => ?_; cbv) | (refine AllC.mk fun c hc hcm => ?_; (try dsimp only at hc); cbv) | (refine AllS.mk fun r hr => ?_; (try simp only [Dat.ok, Dat.dec, Leaf.ok, Leaf.val, Z0, Z1, Z2, Z3, Z4, Z5, Z6, Z7, val_sl] at hr); cbv)
      · cbv
        repeat' first | (refine Stp.mk ?_; cbv) | (refine Gen.mk fun r hr => ?_; (try simp only [Dat.ok, Dat.dec, Leaf.ok, Leaf.val, Z0, Z1, Z2, Z3, Z4, Z5, Z6, Z7, val_sl, val_nil] at hr); cbv) | exact trivial | rfl | refine Both.mk ?_ ?_ | (refine Imp.mk fun h => ?_; (try dsimp only at h); (try simp only [nc, Int.toNat_natCast, ne_eq, zz] at h); (try simp only [nc] at h)) | refine Ob.mk ?_ ?_ | refine Chk.mk (by kernel_rfl) ?_ | refine Eq'.mk ?_ | (refine AllN.mk fun i hi => ?_; cbv) | (refine AllC.mk fun c hc hcm => ?_; (try dsimp only at hc); cbv) | (refine AllS.mk fun r hr => ?_; (try simp only [Dat.ok, Dat.dec, Leaf.ok, Leaf.val, Z0, Z1, Z2, Z3, Z4, Z5, Z6, Z7, val_sl] at hr); cbv))
   | (refine fin _ _ _ ?_
      rw [drop_nil (by omega), part] at hr2
      unfold uptoV; omega)
   | fail
theorem upto_ok : PcOk Tryz.prog 127 (detPC upto_D) := det_okA fun A p r h hp0 => by
 unfold upto_D at h
 split at h
 · rename_i s t
   cases h
   obtain ⟨g0, hp⟩ := hp0
   exact ⟨rfl, FnOk.pre (A' := [.agg (Dat.enc fun _ => (Dat.dec s : Set)), .i .i64 fun _ => t ()]) (upto_vc (Dat.dec s) (t ()) hp) (.mk (Dat.hle _ g0) (.mk (.mk (.mk rfl) (.mk rfl)) (trivial)))⟩
 · cases h
theorem upto_bd {s : Set} (h : Right s) {t : Int} (h0 : 0 ≤ t) : 0 ≤ uptoV s t ∧ uptoV s t ≤ t + s.size := by
 have h1 := div_long h h0
 have h2 := part_bd (t := t.tmod s.size) (l := s.spans) fun x hx => ((okSp_bd h.ok).2.2 x hx).2.1
 have h3 := right_long h
 unfold uptoV; omega
noncomputable def conB : FuncId → Con := fun f => match f with
 | 46 => pureCon (detPC check_D)
 | _ => fun _ _ _ => Bad 1001
theorem conB_ok : ConOk Tryz.prog conB := fun f A H K h => by
 unfold conB at h
 split at h
 · exact ⟨⟨Tryz.f46, Tryz.func46, by kernel_rfl, by kernel_rfl⟩, pureCon_ok check_ok h⟩
 · cases h
def detB : FuncId → Option Dt := fun f => match f with
 | 127 => some (.c upto_D)
 | _ => none
theorem detB_ok : DetOk Tryz.prog detB := fun f d h => by
 unfold detB at h
 split at h
 · cases h; exact ⟨⟨Tryz.f127, Tryz.func127, by kernel_rfl, by kernel_rfl⟩, upto_ok⟩
 · cases h
set_option maxRecDepth 100000 in
set_option maxHeartbeats 4000000 in
theorem count_vc (s : Set) (a : Int) (b : Int) (hp : count_P s a b) : FnOk Tryz.prog 95 [.agg (Dat.enc fun _ => s), .i .i64 fun _ => a, .i .i64 fun _ => b] [] (outA (count_R fun _ => countV s a b) []) := by
 refine fn_ok envOk zl conB_ok (draws_ok envOk zl detB_ok mixed) (keep := [0, 1, 2, 3, 6, 7, 8, 12, 24]) Tryz.func95 rfl ?_
 have hp' : s.spans.length ≤ 9223372036854775807 := hp
 have fin : ∀ a' e H kl, (a', e) = countV s a b → outA (count_R fun _ => countV s a b) [] (.tup [.i .i64 fun _ => a', .i .i64 fun _ => e]) H kl := by
   intro a' e H kl h
   cbv
   repeat' first | (refine Stp.mk ?_; cbv) | (refine Gen.mk fun r hr => ?_; (try simp only [Dat.ok, Dat.dec, Leaf.ok, Leaf.val, Z0, Z1, Z2, Z3, Z4, Z5, Z6, Z7, val_sl, val_nil] at hr); cbv) | exact trivial | rfl | refine Both.mk ?_ ?_ | (refine Imp.mk fun h => ?_; (try dsimp only at h); (try simp only [nc, Int.toNat_natCast, ne_eq, zz] at h); (try simp only [nc] at h)) | refine Ob.mk ?_ ?_ | refine Chk.mk (by kernel_rfl) ?_ | refine Eq'.mk ?_ | (refine AllN.mk fun i hi => ?_; cbv) | (refine AllC.mk fun c hc hcm => ?_; (try dsimp only at hc); cbv) | (refine AllS.mk fun r hr => ?_; (try simp only [Dat.ok, Dat.dec, Leaf.ok, Leaf.val, Z0, Z1, Z2, Z3, Z4, Z5, Z6, Z7, val_sl] at hr); cbv)
   all_goals rw [← h]
 generalize outA (count_R fun _ => countV s a b) [] = K at fin
 cbv
 repeat' first | (refine Stp.mk ?_; cbv) | (refine Gen.mk fun r hr => ?_; (try simp only [Dat.ok, Dat.dec, Leaf.ok, Leaf.val, Z0, Z1, Z2, Z3, Z4, Z5, Z6, Z7, val_sl, val_nil] at hr); cbv) | exact trivial | rfl | refine Both.mk ?_ ?_ | (refine Imp.mk fun h => ?_; (try dsimp only at h); (try simp only [nc, Int.toNat_natCast, ne_eq, zz] at h); (try simp only [nc] at h)) | refine Ob.mk ?_ ?_ | refine Chk.mk (by kernel_rfl) ?_ | refine Eq'.mk ?_ | (refine AllN.mk fun i hi => ?_; cbv) | (refine AllC.mk fun c hc hcm => ?_; (try dsimp only at hc); cbv) | (refine AllS.mk fun r hr => ?_; (try simp only [Dat.ok, Dat.dec, Leaf.ok, Leaf.val, Z0, Z1, Z2, Z3, Z4, Z5, Z6, Z7, val_sl] at hr); cbv)
 all_goals ((try dsimp only at *); (try simp only [nc, Int.toNat_natCast, ne_eq, zz] at *); (try simp only [nc] at *))
 all_goals try simp only [Dat.ok, Dat.dec, Leaf.ok, Leaf.val, Z0, Z1, Z2, Z3, Z4, Z5, Z6, Z7, val_sl] at *
 all_goals try have hR := check_iff.1 (show checkV s = 0 by assumption)
 all_goals try have hb := upto_bd hR (show 0 ≤ b by omega)
 all_goals try have ha := upto_bd hR (show 0 ≤ a by omega)
 all_goals try have hs2 := hR.s2
 all_goals first
   | exact ⟨⟨trivial, rfl, fun i _ => Dat.hok _⟩, hp'⟩
   | exact ⟨⟨trivial, rfl, fun i _ => Dat.hok _⟩, hR, by omega, by omega⟩
   | (unfold InR; omega)
   | (refine fin _ _ _ _ ?_
      unfold countV
      first
        | (rw [if_neg (by assumption)]; done)
        | (rw [if_pos (by assumption), if_pos (by omega)]; done)
        | (rw [if_pos (by assumption), if_neg (by omega)]; done))
   | fail
theorem count_ok : PcOk Tryz.prog 95 (detPC count_D) := det_okA fun A p r h hp0 => by
 unfold count_D at h
 split at h
 · rename_i s a b
   cases h
   obtain ⟨g0, hp⟩ := hp0
   exact ⟨rfl, FnOk.pre (A' := [.agg (Dat.enc fun _ => (Dat.dec s : Set)), .i .i64 fun _ => a (), .i .i64 fun _ => b ()]) (count_vc (Dat.dec s) (a ()) (b ()) hp) (.mk (Dat.hle _ g0) (.mk (.mk (.mk rfl) (.mk rfl)) (.mk (.mk (.mk rfl) (.mk rfl)) (trivial))))⟩
 · cases h

end Go.Proofs.YtnjngpjkhddnfaaGreatDoor
