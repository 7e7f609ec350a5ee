/- Numbers: rounding, what two share. -/
import Derived.Test.YtobonmoinjkfbaaTy
set_option linter.all false
namespace Go.Proofs.Ytobonmoinjkfbaa
open Go Go.Abs

def M40 : Int := 1099511627776
def downV (a b : Int) : Int × Int :=
  if -1099511627776 ≤ a ∧ a ≤ 1099511627776 ∧ 1 ≤ b ∧ b ≤ 1099511627776 then (a / b, 0) else (0, 1)
theorem tdiv_down {a b : Int} (hb : 1 ≤ b) : (a.tmod b < 0 → a.tdiv b - 1 = a / b) ∧ (0 ≤ a.tmod b → a.tdiv b = a / b) ∧ -b < a.tmod b ∧ a.tmod b < b ∧ (a.tdiv b) * b + a.tmod b = a := by
  have h1 : (a.tdiv b) * b + a.tmod b = a := Int.tdiv_mul_add_tmod a b
  have h2 : a.tmod b < b := Int.tmod_lt_of_pos a (by omega)
  have h3 : -b < a.tmod b := Int.lt_tmod_of_pos a (by omega)
  refine ⟨fun h => ?_, fun h => ?_, h3, h2, h1⟩
  · symm
    rw [Int.ediv_eq_iff_of_pos (by omega)]
    rw [Int.sub_mul]; omega
  · symm
    rw [Int.ediv_eq_iff_of_pos (by omega)]
    omega
theorem tdiv_bd {a b : Int} (hb : 1 ≤ b) (h1 : -1099511627776 ≤ a) (h2 : a ≤ 1099511627776) : -1099511627776 ≤ a.tdiv b ∧ a.tdiv b ≤ 1099511627776 := by
  have h3 : (a.tdiv b).natAbs = a.natAbs / b.natAbs := Int.natAbs_tdiv a b
  have h4 : a.natAbs / b.natAbs ≤ a.natAbs := Nat.div_le_self _ _
  omega
def downN_R (r : Th (Int × Int)) : AV := .tup [.i .i64 fun _ => (r ()).1, .i .i64 fun _ => (r ()).2]
def downN_D : Det := fun A => match A with
  | [.i .i64 a, .i .i64 b] => some (fun _ => True, downN_R fun _ => downV (a ()) (b ()))
  | _ => none
noncomputable def cDN : FuncId → Con := fun f => match f with
  | 26 => inlCon E noCon noDraws [0, 1, 2, 6] Try.f26
  | _ => fun _ _ _ => Bad 1001
theorem cDN_ok : ConOk Try.prog cDN := fun f A H K h => by
  unfold cDN at h
  split at h
  · exact ⟨⟨Try.f26, Try.func26, by kernel_rfl, by kernel_rfl⟩, inl_ok envOk zl noCon_ok noDraws_ok Try.func26 h⟩
  · cases h
set_option maxRecDepth 100000 in
set_option maxHeartbeats 4000000 in
theorem downN_vc (a : Int) (b : Int) : FnOk Try.prog 17 [.i .i64 fun _ => a, .i .i64 fun _ => b] [] (outA (downN_R fun _ => downV a b) []) := by
  refine fn_ok envOk zl cDN_ok noDraws_ok (keep := [0, 1, 4, 5, 6, 14, 21]) Try.func17 rfl ?_
  cbv
  repeat' first | (show Stp _; exfalso; first | omega | (exact h ‹_›) | (exact absurd ‹_› h) | (exact Bool.false_ne_true (h.symm.trans (show _ = true by assumption)))) | (refine Stp.mk ?_; cbv) | (refine Gen.mk fun r hr => ?_; (try simp only [Dat.ok, Dat.dec, Leaf.ok, Leaf.val, Act.eta, Work.eta, Locked.eta, val_sl, val_nil] at hr); cbv) | exact trivial | rfl | refine Both.mk ?_ ?_ | (refine Imp.mk fun h => ?_; (try dsimp only at h); (try simp only [nc, Int.toNat_natCast, Bool.not_eq_true', Bool.not_eq_false', decide_eq_true_eq, decide_eq_false_iff_not, beq_iff_eq, beq_eq_false_iff_ne, ba_inj, bne_iff_ne, ne_eq, Bool.and_eq_true, Bool.or_eq_true, Bool.and_eq_false_iff, Bool.or_eq_false_iff, Int.not_le, Int.not_lt, Nat.not_le, Nat.not_lt] at h); (try simp only [nc] at h)) | refine Ob.mk ?_ ?_ | refine Chk.mk (by kernel_rfl) ?_ | refine Eq'.mk ?_ | (refine AllN.mk fun i hi => ?_; cbv) | (refine AllS.mk fun r hr => ?_; (try simp only [Dat.ok, Dat.dec, Leaf.ok, Leaf.val, Act.eta, Work.eta, Locked.eta, val_sl] at hr); cbv)
  all_goals ((try dsimp only at *); (try simp only [nc, Int.toNat_natCast, Bool.not_eq_true', Bool.not_eq_false', decide_eq_true_eq, decide_eq_false_iff_not, beq_iff_eq, beq_eq_false_iff_ne, ba_inj, bne_iff_ne, ne_eq, Bool.and_eq_true, Bool.or_eq_true, Bool.and_eq_false_iff, Bool.or_eq_false_iff, Int.not_le, Int.not_lt, Nat.not_le, Nat.not_lt] at *); (try simp only [nc] at *))
  all_goals try have hd := tdiv_down (a := a) (b := b) (by assumption)
  all_goals try have hbd := tdiv_bd (a := a) (b := b) (by assumption) (by assumption) (by assumption)
  all_goals first
    | omega
    | (unfold InR; omega)
    | (refine ⟨by omega, ?_⟩; unfold InR; omega)
    | (rw [downV, if_neg (by omega)]; done)
    | (rw [downV, if_pos ⟨by assumption, by assumption, by assumption, by assumption⟩]; done)
    | (rw [downV, if_pos ⟨by assumption, by assumption, by assumption, by assumption⟩]; show _ = a / b; omega)
    | fail
theorem downN_ok : PcOk Try.prog 17 (detPC downN_D) := det_okA fun A p r h hp0 => by
  unfold downN_D at h
  split at h
  · rename_i a b
    cases h
    exact ⟨rfl, FnOk.pre (A' := [.i .i64 fun _ => a (), .i .i64 fun _ => b ()]) (downN_vc (a ()) (b ())) (.mk (.mk (.mk rfl) (.mk rfl)) (.mk (.mk (.mk rfl) (.mk rfl)) (trivial)))⟩
  · cases h
def upV (a b : Int) : Int × Int := (0 - (downV (IntKind.i64.wrap (0 - a)) b).1, (downV (IntKind.i64.wrap (0 - a)) b).2)
theorem down_bd (a b : Int) : -1099511627776 ≤ (downV a b).1 ∧ (downV a b).1 ≤ 1099511627776 := by
  unfold downV
  split
  · rename_i h
    obtain ⟨h1, h2, h3, h4⟩ := h
    have hd := tdiv_down (a := a) (b := b) h3
    have hbd := tdiv_bd (a := a) (b := b) h3 h1 h2
    show -1099511627776 ≤ a / b ∧ a / b ≤ 1099511627776
    have h5 : -1099511627776 ≤ a / b := (Int.le_ediv_iff_mul_le (by omega)).2 (by omega)
    rcases Int.lt_or_le (a.tmod b) 0 with h | h
    · have := hd.1 h; omega
    · have := hd.2.1 h; omega
  · decide
def upN_R (r : Th (Int × Int)) : AV := .tup [.i .i64 fun _ => (r ()).1, .i .i64 fun _ => (r ()).2]
def upN_D : Det := fun A => match A with
  | [.i .i64 a, .i .i64 b] => some (fun _ => True, upN_R fun _ => upV (a ()) (b ()))
  | _ => none
noncomputable def cUP : FuncId → Con := fun f => match f with
  | 17 => pureCon (detPC downN_D)
  | _ => fun _ _ _ => Bad 1001
theorem cUP_ok : ConOk Try.prog cUP := fun f A H K h => by
  unfold cUP at h
  split at h
  · exact ⟨⟨Try.f17, Try.func17, by kernel_rfl, by kernel_rfl⟩, pureCon_ok downN_ok h⟩
  · cases h
set_option maxRecDepth 100000 in
set_option maxHeartbeats 4000000 in
theorem upN_vc (a : Int) (b : Int) : FnOk Try.prog 18 [.i .i64 fun _ => a, .i .i64 fun _ => b] [] (outA (upN_R fun _ => upV a b) []) := by
  refine fn_ok (envOkW [10]) (zlW [10]) cUP_ok noDraws_ok (keep := [0, 1, 4, 5, 6, 7]) Try.func18 rfl ?_
  have hb := down_bd (IntKind.i64.wrap (0 - a)) b
  cbv
  repeat' first | (show Stp _; exfalso; first | omega | (exact h ‹_›) | (exact absurd ‹_› h) | (exact Bool.false_ne_true (h.symm.trans (show _ = true by assumption)))) | (refine Stp.mk ?_; cbv) | (refine Gen.mk fun r hr => ?_; (try simp only [Dat.ok, Dat.dec, Leaf.ok, Leaf.val, Act.eta, Work.eta, Locked.eta, val_sl, val_nil] at hr); cbv) | exact trivial | rfl | refine Both.mk ?_ ?_ | (refine Imp.mk fun h => ?_; (try dsimp only at h); (try simp only [nc, Int.toNat_natCast, Bool.not_eq_true', Bool.not_eq_false', decide_eq_true_eq, decide_eq_false_iff_not, beq_iff_eq, beq_eq_false_iff_ne, ba_inj, bne_iff_ne, ne_eq, Bool.and_eq_true, Bool.or_eq_true, Bool.and_eq_false_iff, Bool.or_eq_false_iff, Int.not_le, Int.not_lt, Nat.not_le, Nat.not_lt] at h); (try simp only [nc] at h)) | refine Ob.mk ?_ ?_ | refine Chk.mk (by kernel_rfl) ?_ | refine Eq'.mk ?_ | (refine AllN.mk fun i hi => ?_; cbv) | (refine AllS.mk fun r hr => ?_; (try simp only [Dat.ok, Dat.dec, Leaf.ok, Leaf.val, Act.eta, Work.eta, Locked.eta, val_sl] at hr); cbv)
  all_goals ((try dsimp only at *); (try simp only [nc, Int.toNat_natCast, Bool.not_eq_true', Bool.not_eq_false', decide_eq_true_eq, decide_eq_false_iff_not, beq_iff_eq, beq_eq_false_iff_ne, ba_inj, bne_iff_ne, ne_eq, Bool.and_eq_true, Bool.or_eq_true, Bool.and_eq_false_iff, Bool.or_eq_false_iff, Int.not_le, Int.not_lt, Nat.not_le, Nat.not_lt] at *); (try simp only [nc] at *))
  all_goals first
    | rfl
    | (unfold InR; omega)
    | fail
theorem upN_ok : PcOk Try.prog 18 (detPC upN_D) := det_okA fun A p r h hp0 => by
  unfold upN_D at h
  split at h
  · rename_i a b
    cases h
    exact ⟨rfl, FnOk.pre (A' := [.i .i64 fun _ => a (), .i .i64 fun _ => b ()]) (upN_vc (a ()) (b ())) (.mk (.mk (.mk rfl) (.mk rfl)) (.mk (.mk (.mk rfl) (.mk rfl)) (trivial)))⟩
  · cases h
def gcdV (a b : Int) : Int := Int.gcd a b
theorem gcd_step' {x y : Int} (hx : 0 ≤ x) (hy : 0 < y) : gcdV x y = gcdV y (x % y) := by
  obtain ⟨X, rfl⟩ := Int.eq_ofNat_of_zero_le hx
  obtain ⟨Y, rfl⟩ := Int.eq_ofNat_of_zero_le (Int.le_of_lt hy)
  unfold gcdV
  rw [← Int.natCast_emod]
  show ((Nat.gcd X Y : Nat) : Int) = ((Nat.gcd Y (X % Y) : Nat) : Int)
  rw [Nat.gcd_comm, Nat.gcd_rec, Nat.gcd_comm]
structure GcX (a b : Int) where
  x : Int
  y : Int
  hx : 0 ≤ x
  hy : 0 ≤ y
  he : gcdV a b = gcdV x y
def gcdN_R (r : Th (Int)) : AV := .i .i64 fun _ => (r ())
def gcdN_P (a : Int) (b : Int) : Prop := 0 ≤ a ∧ 0 ≤ b
def gcdN_D : Det := fun A => match A with
  | [.i .i64 a, .i .i64 b] => some (fun _ => gcdN_P (a ()) (b ()), gcdN_R fun _ => gcdV (a ()) (b ()))
  | _ => none
set_option maxRecDepth 100000 in
set_option maxHeartbeats 4000000 in
theorem gcdN_vc (a : Int) (b : Int) (hp : gcdN_P a b) : FnOk Try.prog 27 [.i .i64 fun _ => a, .i .i64 fun _ => b] [] (outA (gcdN_R fun _ => gcdV a b) []) := by
  refine fn_ok envOk zl noCon_ok (draws_ok envOk zl noDet_ok mixed) (keep := [0, 1, 4, 6]) Try.func27 rfl ?_
  obtain ⟨h1, h2⟩ : 0 ≤ a ∧ 0 ≤ b := hp
  cbv
  refine LoopVC.frame [0, 1, 6] (GcX a b) (fun x => [(0, .i .i64 fun _ => x.x), (1, .i .i64 fun _ => x.y)]) (fun _ => []) [] (fun x => x.y.toNat) ⟨a, b, h1, h2, rfl⟩ rfl (fun _ => rfl) ?_ ?_ fun ⟨x, y, hx, hy, he⟩ => ?_
  · cbv
    repeat' first | (refine Stp.mk ?_; cbv) | (refine Gen.mk fun r hr => ?_; (try simp only [Dat.ok, Dat.dec, Leaf.ok, Leaf.val, Act.eta, Work.eta, Locked.eta, val_sl, val_nil] at hr); cbv) | exact trivial | rfl | refine Both.mk ?_ ?_ | (refine Imp.mk fun h => ?_; (try dsimp only at h); (try simp only [nc, Int.toNat_natCast, Bool.not_eq_true', Bool.not_eq_false', decide_eq_true_eq, decide_eq_false_iff_not, beq_iff_eq, beq_eq_false_iff_ne, ba_inj, bne_iff_ne, ne_eq, Bool.and_eq_true, Bool.or_eq_true, Bool.and_eq_false_iff, Bool.or_eq_false_iff, Int.not_le, Int.not_lt, Nat.not_le, Nat.not_lt] at h); (try simp only [nc] at h)) | refine Ob.mk ?_ ?_ | refine Chk.mk (by kernel_rfl) ?_ | refine Eq'.mk ?_ | (refine AllN.mk fun i hi => ?_; cbv) | (refine AllS.mk fun r hr => ?_; (try simp only [Dat.ok, Dat.dec, Leaf.ok, Leaf.val, Act.eta, Work.eta, Locked.eta, val_sl] at hr); cbv)
  · cbv
    repeat' first | (refine Stp.mk ?_; cbv) | (refine Gen.mk fun r hr => ?_; (try simp only [Dat.ok, Dat.dec, Leaf.ok, Leaf.val, Act.eta, Work.eta, Locked.eta, val_sl, val_nil] at hr); cbv) | exact trivial | rfl | refine Both.mk ?_ ?_ | (refine Imp.mk fun h => ?_; (try dsimp only at h); (try simp only [nc, Int.toNat_natCast, Bool.not_eq_true', Bool.not_eq_false', decide_eq_true_eq, decide_eq_false_iff_not, beq_iff_eq, beq_eq_false_iff_ne, ba_inj, bne_iff_ne, ne_eq, Bool.and_eq_true, Bool.or_eq_true, Bool.and_eq_false_iff, Bool.or_eq_false_iff, Int.not_le, Int.not_lt, Nat.not_le, Nat.not_lt] at h); (try simp only [nc] at h)) | refine Ob.mk ?_ ?_ | refine Chk.mk (by kernel_rfl) ?_ | refine Eq'.mk ?_ | (refine AllN.mk fun i hi => ?_; cbv) | (refine AllS.mk fun r hr => ?_; (try simp only [Dat.ok, Dat.dec, Leaf.ok, Leaf.val, Act.eta, Work.eta, Locked.eta, val_sl] at hr); cbv)
  · cbv
    repeat' first | (show Stp _; exfalso; first | omega | (exact h ‹_›) | (exact absurd ‹_› h) | (exact Bool.false_ne_true (h.symm.trans (show _ = true by assumption)))) | (refine Stp.mk ?_; cbv) | (refine Gen.mk fun r hr => ?_; (try simp only [Dat.ok, Dat.dec, Leaf.ok, Leaf.val, Act.eta, Work.eta, Locked.eta, val_sl, val_nil] at hr); cbv) | exact trivial | rfl | refine Both.mk ?_ ?_ | (refine Imp.mk fun h => ?_; (try dsimp only at h); (try simp only [nc, Int.toNat_natCast, Bool.not_eq_true', Bool.not_eq_false', decide_eq_true_eq, decide_eq_false_iff_not, beq_iff_eq, beq_eq_false_iff_ne, ba_inj, bne_iff_ne, ne_eq, Bool.and_eq_true, Bool.or_eq_true, Bool.and_eq_false_iff, Bool.or_eq_false_iff, Int.not_le, Int.not_lt, Nat.not_le, Nat.not_lt] at h); (try simp only [nc] at h)) | refine Ob.mk ?_ ?_ | refine Chk.mk (by kernel_rfl) ?_ | refine Eq'.mk ?_ | (refine AllN.mk fun i hi => ?_; cbv) | (refine AllS.mk fun r hr => ?_; (try simp only [Dat.ok, Dat.dec, Leaf.ok, Leaf.val, Act.eta, Work.eta, Locked.eta, val_sl] at hr); cbv)
    all_goals ((try dsimp only at *); (try simp only [nc, Int.toNat_natCast, Bool.not_eq_true', Bool.not_eq_false', decide_eq_true_eq, decide_eq_false_iff_not, beq_iff_eq, beq_eq_false_iff_ne, ba_inj, bne_iff_ne, ne_eq, Bool.and_eq_true, Bool.or_eq_true, Bool.and_eq_false_iff, Bool.or_eq_false_iff, Int.not_le, Int.not_lt, Nat.not_le, Nat.not_lt] at *); (try simp only [nc] at *))
    all_goals first
      | omega
      | (have hm := Int.emod_lt_of_pos x (show 0 < y by omega)
         have hn := Int.emod_nonneg x (show y ≠ 0 by omega)
         refine ⟨⟨y, x % y, hy, hn, he.trans (gcd_step' hx (by omega))⟩, ?_, ?_, rfl, by (try dsimp only); omega⟩
         · cbv
           repeat' first | (refine Stp.mk ?_; cbv) | (refine Gen.mk fun r hr => ?_; (try simp only [Dat.ok, Dat.dec, Leaf.ok, Leaf.val, Act.eta, Work.eta, Locked.eta, val_sl, val_nil] at hr); cbv) | exact trivial | rfl | refine Both.mk ?_ ?_ | (refine Imp.mk fun h => ?_; (try dsimp only at h); (try simp only [nc, Int.toNat_natCast, Bool.not_eq_true', Bool.not_eq_false', decide_eq_true_eq, decide_eq_false_iff_not, beq_iff_eq, beq_eq_false_iff_ne, ba_inj, bne_iff_ne, ne_eq, Bool.and_eq_true, Bool.or_eq_true, Bool.and_eq_false_iff, Bool.or_eq_false_iff, Int.not_le, Int.not_lt, Nat.not_le, Nat.not_lt] at h); (try simp only [nc] at h)) | refine Ob.mk ?_ ?_ | refine Chk.mk (by kernel_rfl) ?_ | refine Eq'.mk ?_ | (refine AllN.mk fun i hi => ?_; cbv) | (refine AllS.mk fun r hr => ?_; (try simp only [Dat.ok, Dat.dec, Leaf.ok, Leaf.val, Act.eta, Work.eta, Locked.eta, val_sl] at hr); cbv)
           all_goals first
             | rfl
             | exact Int.tmod_eq_emod_of_nonneg hx
             | fail
         · cbv
           repeat' first | (refine Stp.mk ?_; cbv) | (refine Gen.mk fun r hr => ?_; (try simp only [Dat.ok, Dat.dec, Leaf.ok, Leaf.val, Act.eta, Work.eta, Locked.eta, val_sl, val_nil] at hr); cbv) | exact trivial | rfl | refine Both.mk ?_ ?_ | (refine Imp.mk fun h => ?_; (try dsimp only at h); (try simp only [nc, Int.toNat_natCast, Bool.not_eq_true', Bool.not_eq_false', decide_eq_true_eq, decide_eq_false_iff_not, beq_iff_eq, beq_eq_false_iff_ne, ba_inj, bne_iff_ne, ne_eq, Bool.and_eq_true, Bool.or_eq_true, Bool.and_eq_false_iff, Bool.or_eq_false_iff, Int.not_le, Int.not_lt, Nat.not_le, Nat.not_lt] at h); (try simp only [nc] at h)) | refine Ob.mk ?_ ?_ | refine Chk.mk (by kernel_rfl) ?_ | refine Eq'.mk ?_ | (refine AllN.mk fun i hi => ?_; cbv) | (refine AllS.mk fun r hr => ?_; (try simp only [Dat.ok, Dat.dec, Leaf.ok, Leaf.val, Act.eta, Work.eta, Locked.eta, val_sl] at hr); cbv))
      | (have : y = 0 := by omega
         subst this
         show x = gcdV a b
         rw [he]; unfold gcdV; rw [Int.gcd_zero_right]; omega)
      | fail
theorem gcdN_ok : PcOk Try.prog 27 (detPC gcdN_D) := det_okA fun A p r h hp0 => by
  unfold gcdN_D at h
  split at h
  · rename_i a b
    cases h
    have hp := hp0
    exact ⟨rfl, FnOk.pre (A' := [.i .i64 fun _ => a (), .i .i64 fun _ => b ()]) (gcdN_vc (a ()) (b ()) hp) (.mk (.mk (.mk rfl) (.mk rfl)) (.mk (.mk (.mk rfl) (.mk rfl)) (trivial)))⟩
  · cases h
def GcdV (a b : Int) : Int × Int := if 0 ≤ a ∧ a ≤ 1099511627776 ∧ 0 ≤ b ∧ b ≤ 1099511627776 then (gcdV a b, 0) else (0, 1)
def GcdN_R (r : Th (Int × Int)) : AV := .tup [.i .i64 fun _ => (r ()).1, .i .i64 fun _ => (r ()).2]
def GcdN_D : Det := fun A => match A with
  | [.i .i64 a, .i .i64 b] => some (fun _ => True, GcdN_R fun _ => GcdV (a ()) (b ()))
  | _ => none
noncomputable def cGN : FuncId → Con := fun f => match f with
  | 27 => pureCon (detPC gcdN_D)
  | 26 => inlCon E noCon noDraws [0, 1, 2, 6] Try.f26
  | _ => fun _ _ _ => Bad 1001
theorem cGN_ok : ConOk Try.prog cGN := fun f A H K h => by
  unfold cGN at h
  split at h
  · exact ⟨⟨Try.f27, Try.func27, by kernel_rfl, by kernel_rfl⟩, pureCon_ok gcdN_ok h⟩
  · exact ⟨⟨Try.f26, Try.func26, by kernel_rfl, by kernel_rfl⟩, inl_ok envOk zl noCon_ok noDraws_ok Try.func26 h⟩
  · cases h
def dGN : FuncId → Option Dt := fun f => match f with
  | 27 => some (.c gcdN_D)
  | _ => none
theorem dGN_ok : DetOk Try.prog dGN := fun f d h => by
  unfold dGN at h
  split at h
  · cases h; exact ⟨⟨Try.f27, Try.func27, by kernel_rfl, by kernel_rfl⟩, gcdN_ok⟩
  · cases h
set_option maxRecDepth 100000 in
set_option maxHeartbeats 4000000 in
theorem GcdN_vc (a : Int) (b : Int) : FnOk Try.prog 13 [.i .i64 fun _ => a, .i .i64 fun _ => b] [] (outA (GcdN_R fun _ => GcdV a b) []) := by
  refine fn_ok envOk zl cGN_ok (draws_ok envOk zl dGN_ok mixed) (keep := [0, 1, 4, 5, 13]) Try.func13 rfl ?_
  cbv
  repeat' first | (show Stp _; exfalso; first | omega | (exact h ‹_›) | (exact absurd ‹_› h) | (exact Bool.false_ne_true (h.symm.trans (show _ = true by assumption)))) | (refine Stp.mk ?_; cbv) | (refine Gen.mk fun r hr => ?_; (try simp only [Dat.ok, Dat.dec, Leaf.ok, Leaf.val, Act.eta, Work.eta, Locked.eta, val_sl, val_nil] at hr); cbv) | exact trivial | rfl | refine Both.mk ?_ ?_ | (refine Imp.mk fun h => ?_; (try dsimp only at h); (try simp only [nc, Int.toNat_natCast, Bool.not_eq_true', Bool.not_eq_false', decide_eq_true_eq, decide_eq_false_iff_not, beq_iff_eq, beq_eq_false_iff_ne, ba_inj, bne_iff_ne, ne_eq, Bool.and_eq_true, Bool.or_eq_true, Bool.and_eq_false_iff, Bool.or_eq_false_iff, Int.not_le, Int.not_lt, Nat.not_le, Nat.not_lt] at h); (try simp only [nc] at h)) | refine Ob.mk ?_ ?_ | refine Chk.mk (by kernel_rfl) ?_ | refine Eq'.mk ?_ | (refine AllN.mk fun i hi => ?_; cbv) | (refine AllS.mk fun r hr => ?_; (try simp only [Dat.ok, Dat.dec, Leaf.ok, Leaf.val, Act.eta, Work.eta, Locked.eta, val_sl] at hr); cbv)
  all_goals ((try dsimp only at *); (try simp only [nc, Int.toNat_natCast, Bool.not_eq_true', Bool.not_eq_false', decide_eq_true_eq, decide_eq_false_iff_not, beq_iff_eq, beq_eq_false_iff_ne, ba_inj, bne_iff_ne, ne_eq, Bool.and_eq_true, Bool.or_eq_true, Bool.and_eq_false_iff, Bool.or_eq_false_iff, Int.not_le, Int.not_lt, Nat.not_le, Nat.not_lt] at *); (try simp only [nc] at *))
  all_goals first
    | omega
    | exact ⟨by assumption, by assumption⟩
    | (rw [GcdV, if_neg (by omega)]; done)
    | (rw [GcdV, if_pos ⟨by assumption, by assumption, by assumption, by assumption⟩]; done)
    | fail
theorem GcdN_ok : PcOk Try.prog 13 (detPC GcdN_D) := det_okA fun A p r h hp0 => by
  unfold GcdN_D at h
  split at h
  · rename_i a b
    cases h
    exact ⟨rfl, FnOk.pre (A' := [.i .i64 fun _ => a (), .i .i64 fun _ => b ()]) (GcdN_vc (a ()) (b ())) (.mk (.mk (.mk rfl) (.mk rfl)) (.mk (.mk (.mk rfl) (.mk rfl)) (trivial)))⟩
  · cases h

end Go.Proofs.Ytobonmoinjkfbaa
