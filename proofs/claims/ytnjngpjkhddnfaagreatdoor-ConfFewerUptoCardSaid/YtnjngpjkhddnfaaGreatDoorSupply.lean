/- The program's functions, walked: Supply. -/
import Derived.Test.YtnjngpjkhddnfaaGreatDoorSpan
set_option linter.all false
namespace Go.Proofs.YtnjngpjkhddnfaaGreatDoor
open Go Go.Abs
/- What the functions of package supply compute. -/
def bestV (s : Set) (n : Int) (most : Bool) : List Span → Int → Int
 | [], b => b
 | x :: r, b =>
   let c := (countV s (if most = true then x.frm else x.to) ((if most = true then x.frm else x.to) + n)).1
   bestV s n most r (if b < 0 ∨ decide (b < c) = most then c else b)
def boundV (s : Set) (n : Int) (most : Bool) : Int × Int :=
 if checkV s = 0 then (if n < 0 ∨ 549755813888 < n then (0, 1) else (mx0 (bestV s n most s.spans (-1)), 0)) else (0, checkV s)
def leastV (s : Set) (n : Int) : Int := n.tdiv s.size * (countV s 0 s.size).1 + (boundV s (n.tmod s.size) false).1

def bound_R (r : Th (Int × Int)) : AV := .tup [.i .i64 fun _ => (r ()).1, .i .i64 fun _ => (r ()).2]
def bound_P (s : Set) (n : Int) (most : Bool) : Prop := s.spans.length ≤ 9223372036854775807
def bound_D : Det := fun A => match A with
 | [.agg s, .i .i64 n, most] => some (fun _ => Dat.ok Set s ∧ Leaf.ok Bool most ∧ bound_P (Dat.dec s) (n ()) (Leaf.val most), bound_R fun _ => boundV (Dat.dec s) (n ()) (Leaf.val most))
 | _ => none
def leastP_R (r : Th (Int × Int)) : AV := .tup [.i .i64 fun _ => (r ()).1, .i .i64 fun _ => (r ()).2]
def leastP_S (s : Set) (n : Int) : Int × Int := boundV s n false
def leastP_P (s : Set) (n : Int) : Prop := s.spans.length ≤ 9223372036854775807
def leastP_D : Det := fun A => match A with
 | [.agg s, .i .i64 n] => some (fun _ => Dat.ok Set s ∧ leastP_P (Dat.dec s) (n ()), leastP_R fun _ => leastP_S (Dat.dec s) (n ()))
 | _ => none

structure BoX (s : Set) (n : Int) (most : Bool) where
 k : Nat
 b : Int
 hk : k ≤ s.spans.length
 hr : bestV s n most s.spans (-1) = bestV s n most (s.spans.drop k) b
noncomputable def conC : FuncId → Con := fun f => match f with
 | 46 => pureCon (detPC check_D)
 | 95 => pureCon (detPC count_D)
 | _ => fun _ _ _ => Bad 1001
theorem conC_ok : ConOk Tryz.prog conC := fun f A H K h => by
 unfold conC at h
 split at h
 · exact ⟨⟨Tryz.f46, Tryz.func46, by kernel_rfl, by kernel_rfl⟩, pureCon_ok check_ok h⟩
 · exact ⟨⟨Tryz.f95, Tryz.func95, by kernel_rfl, by kernel_rfl⟩, pureCon_ok count_ok h⟩
 · cases h
set_option maxRecDepth 100000 in
set_option maxHeartbeats 4000000 in
theorem bound_vc (s : Set) (n : Int) (most : Bool) (hp : bound_P s n most) : FnOk Tryz.prog 72 [.agg (Dat.enc fun _ => s), .i .i64 fun _ => n, .b fun _ => most] [] (outA (bound_R fun _ => boundV s n most) []) := by
 refine fn_ok envOk zl conC_ok noDraws_ok (keep := [0, 1, 2, 3, 6, 7, 8, 9, 11, 12, 13, 18, 25, 27, 28, 29, 30, 35, 55]) Tryz.func72 rfl ?_
 have hp' : s.spans.length ≤ 9223372036854775807 := hp
 have fin : ∀ a' e H kl, (a', e) = boundV s n most → outA (bound_R fun _ => boundV s n most) [] (.tup [.i .i64 fun _ => a', .i .i64 fun _ => e]) H kl := by
   intro a' e H kl h
   cbv
   repeat' first | (refine Stp.mk ?_; cbv) | (refine Gen.mk fun r hr => ?_; (try simp only [Dat.ok, Dat.dec, Leaf.ok, Leaf.val, Z0, Z1, Z2, Z3, Z4, Z5, Z6, Z7, val_sl, val_nil] at hr); cbv) | exact trivial | rfl | refine Both.mk ?_ ?_ | (refine Imp.mk fun h => ?_; (try dsimp only at h); (try simp only [nc, Int.toNat_natCast, ne_eq, zz] at h); (try simp only [nc] at h)) | refine Ob.mk ?_ ?_ | refine Chk.mk (by kernel_rfl) ?_ | refine Eq'.mk ?_ | (refine AllN.mk fun i hi => ?_; cbv) | (refine AllC.mk fun c hc hcm => ?_; (try dsimp only at hc); cbv) | (refine AllS.mk fun r hr => ?_; (try simp only [Dat.ok, Dat.dec, Leaf.ok, Leaf.val, Z0, Z1, Z2, Z3, Z4, Z5, Z6, Z7, val_sl] at hr); cbv)
   all_goals rw [← h]
 generalize outA (bound_R fun _ => boundV s n most) [] = K at fin
 cbv
 repeat' first | (refine Stp.mk ?_; cbv) | (refine Gen.mk fun r hr => ?_; (try simp only [Dat.ok, Dat.dec, Leaf.ok, Leaf.val, Z0, Z1, Z2, Z3, Z4, Z5, Z6, Z7, val_sl, val_nil] at hr); cbv) | exact trivial | rfl | refine Both.mk ?_ ?_ | (refine Imp.mk fun h => ?_; (try dsimp only at h); (try simp only [nc, Int.toNat_natCast, ne_eq, zz] at h); (try simp only [nc] at h)) | refine Ob.mk ?_ ?_ | refine Chk.mk (by kernel_rfl) ?_ | refine Eq'.mk ?_ | (refine AllN.mk fun i hi => ?_; cbv) | (refine AllC.mk fun c hc hcm => ?_; (try dsimp only at hc); cbv) | (refine AllS.mk fun r hr => ?_; (try simp only [Dat.ok, Dat.dec, Leaf.ok, Leaf.val, Z0, Z1, Z2, Z3, Z4, Z5, Z6, Z7, val_sl] at hr); cbv)
 all_goals ((try dsimp only at *); (try simp only [nc, Int.toNat_natCast, ne_eq, zz] at *); (try simp only [nc] at *))
 all_goals try simp only [Dat.ok, Dat.dec, Leaf.ok, Leaf.val, Z0, Z1, Z2, Z3, Z4, Z5, Z6, Z7, val_sl] at *
 all_goals first
   | exact ⟨⟨trivial, rfl, fun i _ => Dat.hok _⟩, hp'⟩
   | (refine fin _ _ _ _ ?_
      unfold boundV
      first
        | (rw [if_neg (by assumption)]; done)
        | (rw [if_pos (by assumption), if_pos (by omega)]; done))
   | skip
 have hR := check_iff.1 (show checkV s = 0 by assumption)
 have hs2 := hR.s2
 refine LoopVC.frame [9, 11, 12, 13, 29, 30, 35, 55] (BoX s n most) (fun x => [(29, .i .i64 fun _ => x.k), (9, .i .i64 fun _ => x.b)]) (fun _ => []) [] (fun x => s.spans.length - x.k) ⟨0, -1, Nat.zero_le _, by simp⟩ rfl (fun _ => rfl) ?_ ?_ fun ⟨k, b, hk, hr⟩ => ?_
 iterate 2
   · cbv
     repeat' first | (refine Stp.mk ?_; cbv) | (refine Gen.mk fun r hr => ?_; (try simp only [Dat.ok, Dat.dec, Leaf.ok, Leaf.val, Z0, Z1, Z2, Z3, Z4, Z5, Z6, Z7, val_sl, val_nil] at hr); cbv) | exact trivial | rfl | refine Both.mk ?_ ?_ | (refine Imp.mk fun h => ?_; (try dsimp only at h); (try simp only [nc, Int.toNat_natCast, ne_eq, zz] at h); (try simp only [nc] at h)) | refine Ob.mk ?_ ?_ | refine Chk.mk (by kernel_rfl) ?_ | refine Eq'.mk ?_ | (refine AllN.mk fun i hi => ?_; cbv) | (refine AllC.mk fun c hc hcm => ?_; (try dsimp only at hc); cbv) | (refine AllS.mk fun r hr => ?_; (try simp only [Dat.ok, Dat.dec, Leaf.ok, Leaf.val, Z0, Z1, Z2, Z3, Z4, Z5, Z6, Z7, val_sl] at hr); cbv)
 cbv
 repeat' first | (refine Stp.mk ?_; cbv) | (refine Gen.mk fun r hr => ?_; (try simp only [Dat.ok, Dat.dec, Leaf.ok, Leaf.val, Z0, Z1, Z2, Z3, Z4, Z5, Z6, Z7, val_sl, val_nil] at hr); cbv) | exact trivial | rfl | refine Both.mk ?_ ?_ | (refine Imp.mk fun h => ?_; (try dsimp only at h); (try simp only [nc, Int.toNat_natCast, ne_eq, zz] at h); (try simp only [nc] at h)) | refine Ob.mk ?_ ?_ | refine Chk.mk (by kernel_rfl) ?_ | refine Eq'.mk ?_ | (refine AllN.mk fun i hi => ?_; cbv) | (refine AllC.mk fun c hc hcm => ?_; (try dsimp only at hc); cbv) | (refine AllS.mk fun r hr => ?_; (try simp only [Dat.ok, Dat.dec, Leaf.ok, Leaf.val, Z0, Z1, Z2, Z3, Z4, Z5, Z6, Z7, val_sl] at hr); cbv)
 all_goals ((try dsimp only at *); (try simp only [nc, Int.toNat_natCast, ne_eq, zz] at *); (try simp only [nc] at *))
 all_goals try simp only [Dat.ok, Dat.dec, Leaf.ok, Leaf.val, Z0, Z1, Z2, Z3, Z4, Z5, Z6, Z7, val_sl] at *
 all_goals try have hkl : k < s.spans.length := by omega
 all_goals try have hg := right_get hR hkl
 all_goals first
   | omega
   | (unfold InR; omega)
   | exact ⟨⟨trivial, rfl, fun i _ => Dat.hok _⟩, hp'⟩
   | (refine ⟨⟨k + 1, _, by omega, by rw [hr, drop_cons Dat.d0 (by omega), bestV]⟩, ?_, ?_, rfl, by (try dsimp only); omega⟩
      · cbv
        repeat' first | (refine Stp.mk ?_; cbv) | (refine Gen.mk fun r hr => ?_; (try simp only [Dat.ok, Dat.dec, Leaf.ok, Leaf.val, Z0, Z1, Z2, Z3, Z4, Z5, Z6, Z7, val_sl, val_nil] at hr); cbv) | exact trivial | rfl | refine Both.mk ?_ ?_ | (refine Imp.mk fun h => ?_; (try dsimp only at h); (try simp only [nc, Int.toNat_natCast, ne_eq, zz] at h); (try simp only [nc] at h)) | refine Ob.mk ?_ ?_ | refine Chk.mk (by kernel_rfl) ?_ | refine Eq'.mk ?_ | (refine AllN.mk fun i hi => ?_; cbv) | (refine AllC.mk fun c hc hcm => ?_; (try dsimp only at hc); cbv) | (refine AllS.mk fun r hr => ?_; (try simp only [Dat.ok, Dat.dec, Leaf.ok, Leaf.val, Z0, Z1, Z2, Z3, Z4, Z5, Z6, Z7, val_sl] at hr); cbv)
        all_goals (first | (simp_all; done) | (simp [*]; done) | (dsimp only; rw [if_neg (by rintro (q | q); omega; first | (simp_all; done) | (simp_all; omega))]; done) | fail)
      · cbv
        repeat' first | (refine Stp.mk ?_; cbv) | (refine Gen.mk fun r hr => ?_; (try simp only [Dat.ok, Dat.dec, Leaf.ok, Leaf.val, Z0, Z1, Z2, Z3, Z4, Z5, Z6, Z7, val_sl, val_nil] at hr); cbv) | exact trivial | rfl | refine Both.mk ?_ ?_ | (refine Imp.mk fun h => ?_; (try dsimp only at h); (try simp only [nc, Int.toNat_natCast, ne_eq, zz] at h); (try simp only [nc] at h)) | refine Ob.mk ?_ ?_ | refine Chk.mk (by kernel_rfl) ?_ | refine Eq'.mk ?_ | (refine AllN.mk fun i hi => ?_; cbv) | (refine AllC.mk fun c hc hcm => ?_; (try dsimp only at hc); cbv) | (refine AllS.mk fun r hr => ?_; (try simp only [Dat.ok, Dat.dec, Leaf.ok, Leaf.val, Z0, Z1, Z2, Z3, Z4, Z5, Z6, Z7, val_sl] at hr); cbv))
   | skip
 rw [drop_nil (by omega), bestV] at hr
 have e : boundV s n most = (mx0 b, 0) := by rw [boundV, if_pos (by assumption), if_neg (by omega), hr]
 refine fin _ _ _ _ ?_
 rw [e]
 rfl
theorem bound_ok : PcOk Tryz.prog 72 (detPC bound_D) := det_okA fun A p r h hp0 => by
 unfold bound_D at h
 split at h
 · rename_i s n most
   cases h
   obtain ⟨g0, g1, hp⟩ := hp0
   exact ⟨rfl, FnOk.pre (A' := [.agg (Dat.enc fun _ => (Dat.dec s : Set)), .i .i64 fun _ => n (), .b fun _ => Leaf.val most]) (bound_vc (Dat.dec s) (n ()) (Leaf.val most) hp) (.mk (Dat.hle _ g0) (.mk (.mk (.mk rfl) (.mk rfl)) (.mk (Leaf.hle _ g1) (trivial))))⟩
 · cases h
noncomputable def conD : FuncId → Con := fun f => match f with
 | 72 => pureCon (detPC bound_D)
 | _ => fun _ _ _ => Bad 1001
theorem conD_ok : ConOk Tryz.prog conD := fun f A H K h => by
 unfold conD at h
 split at h
 · exact ⟨⟨Tryz.f72, Tryz.func72, by kernel_rfl, by kernel_rfl⟩, pureCon_ok bound_ok h⟩
 · cases h
set_option maxRecDepth 100000 in
set_option maxHeartbeats 4000000 in
theorem leastP_vc (s : Set) (n : Int) (hp : leastP_P s n) : FnOk Tryz.prog 49 [.agg (Dat.enc fun _ => s), .i .i64 fun _ => n] [] (outA (leastP_R fun _ => leastP_S s n) []) := by
 refine fn_ok envOk zl conD_ok noDraws_ok (keep := [0, 1, 2, 4, 5]) Tryz.func49 rfl ?_
 have hp' : s.spans.length ≤ 9223372036854775807 := hp
 cbv
 repeat' first | (refine Stp.mk ?_; cbv) | (refine Gen.mk fun r hr => ?_; (try simp only [Dat.ok, Dat.dec, Leaf.ok, Leaf.val, Z0, Z1, Z2, Z3, Z4, Z5, Z6, Z7, val_sl, val_nil] at hr); cbv) | exact trivial | rfl | refine Both.mk ?_ ?_ | (refine Imp.mk fun h => ?_; (try dsimp only at h); (try simp only [nc, Int.toNat_natCast, ne_eq, zz] at h); (try simp only [nc] at h)) | refine Ob.mk ?_ ?_ | refine Chk.mk (by kernel_rfl) ?_ | refine Eq'.mk ?_ | (refine AllN.mk fun i hi => ?_; cbv) | (refine AllC.mk fun c hc hcm => ?_; (try dsimp only at hc); cbv) | (refine AllS.mk fun r hr => ?_; (try simp only [Dat.ok, Dat.dec, Leaf.ok, Leaf.val, Z0, Z1, Z2, Z3, Z4, Z5, Z6, Z7, val_sl] at hr); cbv)
 all_goals ((try dsimp only at *); (try simp only [nc, Int.toNat_natCast, ne_eq, zz] at *); (try simp only [nc] at *))
 all_goals try simp only [Dat.ok, Dat.dec, Leaf.ok, Leaf.val, Z0, Z1, Z2, Z3, Z4, Z5, Z6, Z7, val_sl] at *
 all_goals first
   | exact ⟨⟨trivial, rfl, fun i _ => Dat.hok _⟩, trivial, hp'⟩
   | rfl
   | fail
theorem leastP_ok : PcOk Tryz.prog 49 (detPC leastP_D) := det_okA fun A p r h hp0 => by
 unfold leastP_D at h
 split at h
 · rename_i s n
   cases h
   obtain ⟨g0, hp⟩ := hp0
   exact ⟨rfl, FnOk.pre (A' := [.agg (Dat.enc fun _ => (Dat.dec s : Set)), .i .i64 fun _ => n ()]) (leastP_vc (Dat.dec s) (n ()) hp) (.mk (Dat.hle _ g0) (.mk (.mk (.mk rfl) (.mk rfl)) (trivial)))⟩
 · cases h
theorem count0 {s : Set} (h : Right s) : countV s 0 s.size = (uptoV s s.size - uptoV s 0, 0) := by
 have := h.s1
 have := h.s2
 rw [countV, if_pos (check_iff.2 h), if_neg (by omega)]
theorem upto0 {s : Set} (h : Right s) : uptoV s 0 = 0 := by
 have h1 := h.s1
 have h2 := part_bd (t := (0 : Int).tmod s.size) (l := s.spans) fun x hx => ((okSp_bd h.ok).2.2 x hx).2.1
 have h3 : ∀ l : List Span, (∀ x ∈ l, -1 < x.frm ∧ x.frm < x.to ∧ x.to ≤ s.size) → part 0 l = 0 := by
   intro l
   induction l with
   | nil => intro _; rfl
   | cons x r ih =>
     intro hl
     have h4 := hl x (by simp)
     rw [part, ih fun y hy => hl y (by simp [hy])]
     unfold mx0 mn
     repeat' split
     all_goals omega
 unfold uptoV
 rw [Int.zero_tmod, Int.zero_tdiv, h3 _ (okSp_bd h.ok).2.2]
 simp
theorem uptoS {s : Set} (h : Right s) : uptoV s s.size = long s.spans := by
 have h1 := h.s1
 have h3 : ∀ l : List Span, (∀ x ∈ l, -1 < x.frm ∧ x.frm < x.to ∧ x.to ≤ s.size) → part 0 l = 0 := by
   intro l
   induction l with
   | nil => intro _; rfl
   | cons x r ih =>
     intro hl
     have h4 := hl x (by simp)
     rw [part, ih fun y hy => hl y (by simp [hy])]
     unfold mx0 mn
     repeat' split
     all_goals omega
 unfold uptoV
 rw [Int.tmod_self, Int.tdiv_self (by omega), h3 _ (okSp_bd h.ok).2.2]
 omega

end Go.Proofs.YtnjngpjkhddnfaaGreatDoor
