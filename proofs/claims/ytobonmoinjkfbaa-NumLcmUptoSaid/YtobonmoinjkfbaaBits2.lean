/- math/bits: quotients of 128 bits. -/
import Derived.Test.YtobonmoinjkfbaaBits
set_option linter.all false
namespace Go.Proofs.Ytobonmoinjkfbaa
open Go Go.Abs

/-- Knuth's way to one digit of a quotient, as the code goes it. -/
def dvR (yn0 yn1 un : Int) : Nat → Int → Int → Int × Int
  | 0, q, r => (q, r)
  | f + 1, q, r => if 4294967296 ≤ q ∨ IntKind.u64.wrap (IntKind.u64.wrap (4294967296 * r) + un) < IntKind.u64.wrap (q * yn0) then
      (if 4294967296 ≤ IntKind.u64.wrap (r + yn1) then (IntKind.u64.wrap (q - 1), IntKind.u64.wrap (r + yn1)) else dvR yn0 yn1 un f (IntKind.u64.wrap (q - 1)) (IntKind.u64.wrap (r + yn1))) else (q, r)
def div2 (s y yn1 yn0 un32 un1 un0 a : Int) : Int × Int :=
  let un21 := IntKind.u64.wrap (IntKind.u64.wrap (IntKind.u64.wrap (un32 * 4294967296) + un1) - IntKind.u64.wrap (a * y))
  let q0 := IntKind.u64.wrap (un21.tdiv yn1)
  let b := dvR yn0 yn1 un0 (q0.toNat + 1) q0 (IntKind.u64.wrap (un21 - IntKind.u64.wrap (q0 * yn1)))
  (IntKind.u64.wrap (IntKind.u64.wrap (a * 4294967296) + b.1), bShr .u64 (IntKind.u64.wrap (IntKind.u64.wrap (IntKind.u64.wrap (un21 * 4294967296) + un0) - IntKind.u64.wrap (b.1 * y))) s)
def div1 (s y yn1 yn0 un32 un1 un0 q r : Int) : Int × Int := div2 s y yn1 yn0 un32 un1 un0 (dvR yn0 yn1 un1 (q.toNat + 1) q r).1
theorem div1_eq {s y yn1 yn0 un32 un1 un0 q r A B : Int} (h : dvR yn0 yn1 un1 (q.toNat + 1) q r = (A, B)) : div1 s y yn1 yn0 un32 un1 un0 q r = div2 s y yn1 yn0 un32 un1 un0 A := by
  unfold div1; rw [h]
theorem div2_eq {s y yn1 yn0 un32 un1 un0 a A B un21 q0 r0 : Int} (h1 : IntKind.u64.wrap (IntKind.u64.wrap (IntKind.u64.wrap (un32 * 4294967296) + un1) - IntKind.u64.wrap (a * y)) = un21) (h2 : IntKind.u64.wrap (un21.tdiv yn1) = q0) (h3 : IntKind.u64.wrap (un21 - IntKind.u64.wrap (q0 * yn1)) = r0)
    (h : dvR yn0 yn1 un0 (q0.toNat + 1) q0 r0 = (A, B)) : div2 s y yn1 yn0 un32 un1 un0 a = (IntKind.u64.wrap (IntKind.u64.wrap (a * 4294967296) + A), bShr .u64 (IntKind.u64.wrap (IntKind.u64.wrap (IntKind.u64.wrap (un21 * 4294967296) + un0) - IntKind.u64.wrap (A * y))) s) := by
  unfold div2; simp only [h1, h2, h3, h]
def divV (hi lo y0 : Int) : Int × Int :=
  if hi = 0 then (lo / y0, lo % y0) else
  let s := IntKind.u64.wrap (lead64_S y0)
  let y := bShl .u64 y0 s
  let yn1 := bShr .u64 y 32
  let un32 := bOr .u64 (bShl .u64 hi s) (bShr .u64 lo (IntKind.u64.wrap (64 - s)))
  let un10 := bShl .u64 lo s
  let q := IntKind.u64.wrap (un32.tdiv yn1)
  div1 s y yn1 (bAnd .u64 y 4294967295) un32 (bShr .u64 un10 32) (bAnd .u64 un10 4294967295) q (IntKind.u64.wrap (un32 - IntKind.u64.wrap (q * yn1)))
structure DvX (yn0 yn1 un q0 r0 : Int) where
  q : Int
  r : Int
  f : Nat
  hq : 0 ≤ q
  hq1 : q < 18446744073709551616
  hf : q.toNat < f
  he : dvR yn0 yn1 un (q0.toNat + 1) q0 r0 = dvR yn0 yn1 un f q r
theorem dv_pos {q yn0 x : Int} (h0 : 0 ≤ q) (h : 4294967296 ≤ q ∨ IntKind.u64.wrap x < IntKind.u64.wrap (q * yn0)) : 1 ≤ q := by
  rcases h with h | h
  · omega
  · have h1 := (wrap_u64_rng x).1
    have : q ≠ 0 := by
      rintro rfl
      rw [Int.zero_mul, wrap_u64 (n := 0) (by decide) (by decide)] at h
      omega
    omega
theorem norm_pos {y : Int} (h1 : 0 < y) (h2 : y < 18446744073709551616) : 0 ≤ IntKind.u64.wrap (lead64_S y) ∧ IntKind.u64.wrap (lead64_S y) ≤ 63 ∧ ¬ bShr .u64 (bShl .u64 y (IntKind.u64.wrap (lead64_S y))) 32 = 0 ∧ 0 ≤ bShl .u64 y (IntKind.u64.wrap (lead64_S y)) ∧ bShl .u64 y (IntKind.u64.wrap (lead64_S y)) < 18446744073709551616 := by
  have hl := len_ok (Int.le_of_lt h1) h2
  have hb := len_bd y
  obtain ⟨m, e, h3⟩ := hl.h2 h1
  have h4 := hl.h1
  have es : IntKind.u64.wrap (lead64_S y) = ((63 - m : Nat) : Int) := by
    show IntKind.u64.wrap (64 - (lenN y : Int)) = _
    rw [wrap_u64 (by omega) (by omega)]; omega
  rw [es]
  have ep : (2 : Int) ^ m * 2 ^ (63 - m) = 2 ^ 63 := by rw [← Int.pow_add]; congr 1; omega
  have ep2 : (2 : Int) ^ (lenN y) * 2 ^ (63 - m) = 2 ^ 64 := by rw [← Int.pow_add]; congr 1; omega
  have hk : (0 : Int) < 2 ^ (63 - m) := Int.pow_pos (by decide)
  have a1 : (2 : Int) ^ 63 ≤ y * 2 ^ (63 - m) := by rw [← ep]; exact Int.mul_le_mul_of_nonneg_right h3 (Int.le_of_lt hk)
  have a2 : y * 2 ^ (63 - m) < (2 : Int) ^ 64 := by rw [← ep2]; exact Int.mul_lt_mul_of_pos_right h4 hk
  have eb : bShl .u64 y ((63 - m : Nat) : Int) = y * 2 ^ (63 - m) := by
    unfold bShl
    rw [Int.toNat_natCast, show min (63 - m) IntKind.u64.bits = 63 - m from Nat.min_eq_left (by show 63 - m ≤ 64; omega)]
    exact wrap_u64 (by omega) (by omega)
  rw [eb, shr32]
  generalize y * 2 ^ (63 - m) = z at *
  refine ⟨by omega, by omega, by omega, by omega, by omega⟩
def div64_R (r : Th (Int × Int)) : AV := .tup [.i .u64 fun _ => (r ()).1, .i .u64 fun _ => (r ()).2]
def div64_P (hi : Int) (lo : Int) (y : Int) : Prop := 0 ≤ hi ∧ hi < y ∧ y < 18446744073709551616 ∧ 0 ≤ lo ∧ lo < 18446744073709551616
def div64_D : Det := fun A => match A with
  | [.i .u64 hi, .i .u64 lo, .i .u64 y] => some (fun _ => div64_P (hi ()) (lo ()) (y ()), div64_R fun _ => divV (hi ()) (lo ()) (y ()))
  | _ => none
noncomputable def cDV : FuncId → Con := fun f => match f with
  | 34 => pureCon (detPC lead64_D)
  | _ => fun _ _ _ => Bad 1001
theorem cDV_ok : ConOk Try.prog cDV := fun f A H K h => by
  unfold cDV at h
  split at h
  · exact ⟨⟨Try.f34, Try.func34, by kernel_rfl, by kernel_rfl⟩, pureCon_ok lead64_ok h⟩
  · cases h
def dDV : FuncId → Option Dt := fun f => match f with
  | 34 => some (.c lead64_D)
  | _ => none
theorem dDV_ok : DetOk Try.prog dDV := fun f d h => by
  unfold dDV at h
  split at h
  · cases h; exact ⟨⟨Try.f34, Try.func34, by kernel_rfl, by kernel_rfl⟩, lead64_ok⟩
  · cases h
set_option maxRecDepth 100000 in
set_option maxHeartbeats 4000000 in
theorem div64_vc (hi : Int) (lo : Int) (y : Int) (hp : div64_P hi lo y) : FnOk Try.prog 30 [.i .u64 fun _ => hi, .i .u64 fun _ => lo, .i .u64 fun _ => y] [] (outA (div64_R fun _ => divV hi lo y) []) := by
  refine fn_ok envOk zl cDV_ok (draws_ok envOk zl dDV_ok mixed) (keep := [0, 1, 2, 6, 7, 8, 9, 10, 11, 12, 13, 14, 15, 16, 17, 18, 20, 24, 27, 78, 85, 113, 120]) Try.func30 rfl ?_
  obtain ⟨h1, h2, h3, h4, h5⟩ : 0 ≤ hi ∧ hi < y ∧ y < 18446744073709551616 ∧ 0 ≤ lo ∧ lo < 18446744073709551616 := hp
  obtain ⟨n1, n2, n3, n4, n5⟩ := norm_pos (y := y) (by omega) h3
  have hW := wrap_u64_rng
  cbv
  repeat' first | (show Stp _; exfalso; first | omega | (exact h ‹_›) | (exact absurd ‹_› h) | (exact Bool.false_ne_true (h.symm.trans (show _ = true by assumption)))) | (refine Stp.mk ?_; cbv) | (refine Gen.mk fun r hr => ?_; (try simp only [Dat.ok, Dat.dec, Leaf.ok, Leaf.val, Act.eta, Work.eta, Locked.eta, val_sl, val_nil] at hr); cbv) | exact trivial | rfl | refine Both.mk ?_ ?_ | (refine Imp.mk fun h => ?_; (try dsimp only at h); (try simp only [nc, Int.toNat_natCast, Bool.not_eq_true', Bool.not_eq_false', decide_eq_true_eq, decide_eq_false_iff_not, beq_iff_eq, beq_eq_false_iff_ne, ba_inj, bne_iff_ne, ne_eq, Bool.and_eq_true, Bool.or_eq_true, Bool.and_eq_false_iff, Bool.or_eq_false_iff, Int.not_le, Int.not_lt, Nat.not_le, Nat.not_lt] at h); (try simp only [nc] at h)) | refine Ob.mk ?_ ?_ | refine Chk.mk (by kernel_rfl) ?_ | refine Eq'.mk ?_ | (refine AllN.mk fun i hi => ?_; cbv) | (refine AllS.mk fun r hr => ?_; (try simp only [Dat.ok, Dat.dec, Leaf.ok, Leaf.val, Act.eta, Work.eta, Locked.eta, val_sl] at hr); cbv)
  all_goals ((try dsimp only at *); (try simp only [nc, Int.toNat_natCast, Bool.not_eq_true', Bool.not_eq_false', decide_eq_true_eq, decide_eq_false_iff_not, beq_iff_eq, beq_eq_false_iff_ne, ba_inj, bne_iff_ne, ne_eq, Bool.and_eq_true, Bool.or_eq_true, Bool.and_eq_false_iff, Bool.or_eq_false_iff, Int.not_le, Int.not_lt, Nat.not_le, Nat.not_lt] at *); (try simp only [nc] at *))
  all_goals first
    | decide
    | omega
    | exact ⟨by omega, by omega⟩
    | exact n1
    | exact n3
    | exact (hW _).1
    | (rw [divV, if_pos (by assumption), Int.tdiv_eq_ediv_of_nonneg h4]
       exact wrap_u64 (Int.ediv_nonneg h4 (by omega)) (Int.lt_of_le_of_lt (Int.ediv_le_self _ h4) h5))
    | (rw [divV, if_pos (by assumption), Int.tmod_eq_emod_of_nonneg h4]; done)
    | skip
  have hd : divV hi lo y = div1 (IntKind.u64.wrap (lead64_S y)) (bShl .u64 y (IntKind.u64.wrap (lead64_S y))) (bShr .u64 (bShl .u64 y (IntKind.u64.wrap (lead64_S y))) 32) (bAnd .u64 (bShl .u64 y (IntKind.u64.wrap (lead64_S y))) 4294967295) (bOr .u64 (bShl .u64 hi (IntKind.u64.wrap (lead64_S y))) (bShr .u64 lo (IntKind.u64.wrap (64 - IntKind.u64.wrap (lead64_S y))))) (bShr .u64 (bShl .u64 lo (IntKind.u64.wrap (lead64_S y))) 32) (bAnd .u64 (bShl .u64 lo (IntKind.u64.wrap (lead64_S y))) 4294967295) (IntKind.u64.wrap ((bOr .u64 (bShl .u64 hi (IntKind.u64.wrap (lead64_S y))) (bShr .u64 lo (IntKind.u64.wrap (64 - IntKind.u64.wrap (lead64_S y))))).tdiv (bShr .u64 (bShl .u64 y (IntKind.u64.wrap (lead64_S y))) 32))) (IntKind.u64.wrap ((bOr .u64 (bShl .u64 hi (IntKind.u64.wrap (lead64_S y))) (bShr .u64 lo (IntKind.u64.wrap (64 - IntKind.u64.wrap (lead64_S y))))) - IntKind.u64.wrap (IntKind.u64.wrap ((bOr .u64 (bShl .u64 hi (IntKind.u64.wrap (lead64_S y))) (bShr .u64 lo (IntKind.u64.wrap (64 - IntKind.u64.wrap (lead64_S y))))).tdiv (bShr .u64 (bShl .u64 y (IntKind.u64.wrap (lead64_S y))) 32)) * bShr .u64 (bShl .u64 y (IntKind.u64.wrap (lead64_S y))) 32))) := by
    rw [divV, if_neg (by assumption)]
  rw [hd]
  generalize bOr .u64 (bShl .u64 hi (IntKind.u64.wrap (lead64_S y))) (bShr .u64 lo (IntKind.u64.wrap (64 - IntKind.u64.wrap (lead64_S y)))) = un32 at *
  generalize bShr .u64 (bShl .u64 lo (IntKind.u64.wrap (lead64_S y))) 32 = un1 at *
  generalize bAnd .u64 (bShl .u64 lo (IntKind.u64.wrap (lead64_S y))) 4294967295 = un0 at *
  generalize bShl .u64 y (IntKind.u64.wrap (lead64_S y)) = yy at *
  generalize IntKind.u64.wrap (lead64_S y) = s at *
  generalize bShr .u64 yy 32 = yn1 at *
  generalize bAnd .u64 yy 4294967295 = yn0 at *
  generalize hq0 : IntKind.u64.wrap (un32.tdiv yn1) = q0 at *
  generalize hr0 : IntKind.u64.wrap (un32 - IntKind.u64.wrap (q0 * yn1)) = r0 at *
  have hq0r : 0 ≤ q0 ∧ q0 < 18446744073709551616 := by rw [← hq0]; exact hW _
  clear hd
  refine LoopVC.frame [15, 16, 78, 85] (DvX yn0 yn1 un1 q0 r0) (fun x => [(15, .i .u64 fun _ => x.q), (16, .i .u64 fun _ => x.r)]) (fun _ => []) [] (fun x => x.q.toNat) ⟨q0, r0, q0.toNat + 1, hq0r.1, hq0r.2, Nat.lt_succ_self _, rfl⟩ rfl (fun _ => rfl) ?_ ?_ fun ⟨q, r, f, hq, hq1, hf, he⟩ => ?_
  · cbv
    repeat' first | (refine Stp.mk ?_; cbv) | (refine Gen.mk fun r hr => ?_; (try simp only [Dat.ok, Dat.dec, Leaf.ok, Leaf.val, Act.eta, Work.eta, Locked.eta, val_sl, val_nil] at hr); cbv) | exact trivial | rfl | refine Both.mk ?_ ?_ | (refine Imp.mk fun h => ?_; (try dsimp only at h); (try simp only [nc, Int.toNat_natCast, Bool.not_eq_true', Bool.not_eq_false', decide_eq_true_eq, decide_eq_false_iff_not, beq_iff_eq, beq_eq_false_iff_ne, ba_inj, bne_iff_ne, ne_eq, Bool.and_eq_true, Bool.or_eq_true, Bool.and_eq_false_iff, Bool.or_eq_false_iff, Int.not_le, Int.not_lt, Nat.not_le, Nat.not_lt] at h); (try simp only [nc] at h)) | refine Ob.mk ?_ ?_ | refine Chk.mk (by kernel_rfl) ?_ | refine Eq'.mk ?_ | (refine AllN.mk fun i hi => ?_; cbv) | (refine AllS.mk fun r hr => ?_; (try simp only [Dat.ok, Dat.dec, Leaf.ok, Leaf.val, Act.eta, Work.eta, Locked.eta, val_sl] at hr); cbv)
    all_goals first
      | rfl
      | fail
  · cbv
    repeat' first | (refine Stp.mk ?_; cbv) | (refine Gen.mk fun r hr => ?_; (try simp only [Dat.ok, Dat.dec, Leaf.ok, Leaf.val, Act.eta, Work.eta, Locked.eta, val_sl, val_nil] at hr); cbv) | exact trivial | rfl | refine Both.mk ?_ ?_ | (refine Imp.mk fun h => ?_; (try dsimp only at h); (try simp only [nc, Int.toNat_natCast, Bool.not_eq_true', Bool.not_eq_false', decide_eq_true_eq, decide_eq_false_iff_not, beq_iff_eq, beq_eq_false_iff_ne, ba_inj, bne_iff_ne, ne_eq, Bool.and_eq_true, Bool.or_eq_true, Bool.and_eq_false_iff, Bool.or_eq_false_iff, Int.not_le, Int.not_lt, Nat.not_le, Nat.not_lt] at h); (try simp only [nc] at h)) | refine Ob.mk ?_ ?_ | refine Chk.mk (by kernel_rfl) ?_ | refine Eq'.mk ?_ | (refine AllN.mk fun i hi => ?_; cbv) | (refine AllS.mk fun r hr => ?_; (try simp only [Dat.ok, Dat.dec, Leaf.ok, Leaf.val, Act.eta, Work.eta, Locked.eta, val_sl] at hr); cbv)
  · obtain ⟨g, rfl⟩ : ∃ g, f = g + 1 := ⟨f - 1, by omega⟩
    cbv
    repeat' first | (show Stp _; exfalso; first | omega | (exact h ‹_›) | (exact absurd ‹_› h) | (exact Bool.false_ne_true (h.symm.trans (show _ = true by assumption)))) | (refine Stp.mk ?_; cbv) | (refine Gen.mk fun r hr => ?_; (try simp only [Dat.ok, Dat.dec, Leaf.ok, Leaf.val, Act.eta, Work.eta, Locked.eta, val_sl, val_nil] at hr); cbv) | exact trivial | rfl | refine Both.mk ?_ ?_ | (refine Imp.mk fun h => ?_; (try dsimp only at h); (try simp only [nc, Int.toNat_natCast, Bool.not_eq_true', Bool.not_eq_false', decide_eq_true_eq, decide_eq_false_iff_not, beq_iff_eq, beq_eq_false_iff_ne, ba_inj, bne_iff_ne, ne_eq, Bool.and_eq_true, Bool.or_eq_true, Bool.and_eq_false_iff, Bool.or_eq_false_iff, Int.not_le, Int.not_lt, Nat.not_le, Nat.not_lt] at h); (try simp only [nc] at h)) | refine Ob.mk ?_ ?_ | refine Chk.mk (by kernel_rfl) ?_ | refine Eq'.mk ?_ | (refine AllN.mk fun i hi => ?_; cbv) | (refine AllS.mk fun r hr => ?_; (try simp only [Dat.ok, Dat.dec, Leaf.ok, Leaf.val, Act.eta, Work.eta, Locked.eta, val_sl] at hr); cbv)
    all_goals ((try dsimp only at *); (try simp only [nc, Int.toNat_natCast, Bool.not_eq_true', Bool.not_eq_false', decide_eq_true_eq, decide_eq_false_iff_not, beq_iff_eq, beq_eq_false_iff_ne, ba_inj, bne_iff_ne, ne_eq, Bool.and_eq_true, Bool.or_eq_true, Bool.and_eq_false_iff, Bool.or_eq_false_iff, Int.not_le, Int.not_lt, Nat.not_le, Nat.not_lt] at *); (try simp only [nc] at *))
    all_goals try exact n3
    all_goals first
      | (have hc : 4294967296 ≤ q ∨ IntKind.u64.wrap (IntKind.u64.wrap (4294967296 * r) + un1) < IntKind.u64.wrap (q * yn0) := by omega
         have hp1 := dv_pos hq hc
         have hw1 : IntKind.u64.wrap (q - 1) = q - 1 := wrap_u64 (by omega) (by omega)
         have hcc : IntKind.u64.wrap (r + yn1) < 4294967296 := by assumption
         refine ⟨⟨q - 1, IntKind.u64.wrap (r + yn1), g, by omega, by omega, by omega, by rw [he, dvR, if_pos hc, if_neg (by omega), hw1]⟩, ?_, ?_, rfl, by (try dsimp only); omega⟩
         · cbv
           repeat' first | (refine Stp.mk ?_; cbv) | (refine Gen.mk fun r hr => ?_; (try simp only [Dat.ok, Dat.dec, Leaf.ok, Leaf.val, Act.eta, Work.eta, Locked.eta, val_sl, val_nil] at hr); cbv) | exact trivial | rfl | refine Both.mk ?_ ?_ | (refine Imp.mk fun h => ?_; (try dsimp only at h); (try simp only [nc, Int.toNat_natCast, Bool.not_eq_true', Bool.not_eq_false', decide_eq_true_eq, decide_eq_false_iff_not, beq_iff_eq, beq_eq_false_iff_ne, ba_inj, bne_iff_ne, ne_eq, Bool.and_eq_true, Bool.or_eq_true, Bool.and_eq_false_iff, Bool.or_eq_false_iff, Int.not_le, Int.not_lt, Nat.not_le, Nat.not_lt] at h); (try simp only [nc] at h)) | refine Ob.mk ?_ ?_ | refine Chk.mk (by kernel_rfl) ?_ | refine Eq'.mk ?_ | (refine AllN.mk fun i hi => ?_; cbv) | (refine AllS.mk fun r hr => ?_; (try simp only [Dat.ok, Dat.dec, Leaf.ok, Leaf.val, Act.eta, Work.eta, Locked.eta, val_sl] at hr); cbv)
           all_goals first
             | rfl
             | exact hw1
             | fail
         · cbv
           repeat' first | (refine Stp.mk ?_; cbv) | (refine Gen.mk fun r hr => ?_; (try simp only [Dat.ok, Dat.dec, Leaf.ok, Leaf.val, Act.eta, Work.eta, Locked.eta, val_sl, val_nil] at hr); cbv) | exact trivial | rfl | refine Both.mk ?_ ?_ | (refine Imp.mk fun h => ?_; (try dsimp only at h); (try simp only [nc, Int.toNat_natCast, Bool.not_eq_true', Bool.not_eq_false', decide_eq_true_eq, decide_eq_false_iff_not, beq_iff_eq, beq_eq_false_iff_ne, ba_inj, bne_iff_ne, ne_eq, Bool.and_eq_true, Bool.or_eq_true, Bool.and_eq_false_iff, Bool.or_eq_false_iff, Int.not_le, Int.not_lt, Nat.not_le, Nat.not_lt] at h); (try simp only [nc] at h)) | refine Ob.mk ?_ ?_ | refine Chk.mk (by kernel_rfl) ?_ | refine Eq'.mk ?_ | (refine AllN.mk fun i hi => ?_; cbv) | (refine AllS.mk fun r hr => ?_; (try simp only [Dat.ok, Dat.dec, Leaf.ok, Leaf.val, Act.eta, Work.eta, Locked.eta, val_sl] at hr); cbv))
      | (have ha : dvR yn0 yn1 un1 (q0.toNat + 1) q0 r0 = (IntKind.u64.wrap (q - 1), IntKind.u64.wrap (r + yn1)) := by rw [he, dvR, if_pos (by omega), if_pos (by assumption)]
         rw [div1_eq ha]
         generalize IntKind.u64.wrap (q - 1) = qa at *)
      | (have ha : dvR yn0 yn1 un1 (q0.toNat + 1) q0 r0 = (q, r) := by rw [he, dvR, if_neg (by omega)]
         rw [div1_eq ha]
         generalize q = qa at *)
    all_goals (
      clear ha
      generalize hu2 : IntKind.u64.wrap (IntKind.u64.wrap (IntKind.u64.wrap (un32 * 4294967296) + un1) - IntKind.u64.wrap (qa * yy)) = un21 at *
      generalize hq2 : IntKind.u64.wrap (un21.tdiv yn1) = q2 at *
      generalize hr2 : IntKind.u64.wrap (un21 - IntKind.u64.wrap (q2 * yn1)) = r2 at *
      have hq2r : 0 ≤ q2 ∧ q2 < 18446744073709551616 := by rw [← hq2]; exact hW _
      refine LoopVC.frame [16, 18, 113, 120] (DvX yn0 yn1 un0 q2 r2) (fun x => [(18, .i .u64 fun _ => x.q), (16, .i .u64 fun _ => x.r)]) (fun _ => []) [] (fun x => x.q.toNat) ⟨q2, r2, q2.toNat + 1, hq2r.1, hq2r.2, Nat.lt_succ_self _, rfl⟩ rfl (fun _ => rfl) ?_ ?_ fun ⟨p, t, f2, hp0, hp1, hpf, hpe⟩ => ?_)
    all_goals first
      | (cbv
         repeat' first | (refine Stp.mk ?_; cbv) | (refine Gen.mk fun r hr => ?_; (try simp only [Dat.ok, Dat.dec, Leaf.ok, Leaf.val, Act.eta, Work.eta, Locked.eta, val_sl, val_nil] at hr); cbv) | exact trivial | rfl | refine Both.mk ?_ ?_ | (refine Imp.mk fun h => ?_; (try dsimp only at h); (try simp only [nc, Int.toNat_natCast, Bool.not_eq_true', Bool.not_eq_false', decide_eq_true_eq, decide_eq_false_iff_not, beq_iff_eq, beq_eq_false_iff_ne, ba_inj, bne_iff_ne, ne_eq, Bool.and_eq_true, Bool.or_eq_true, Bool.and_eq_false_iff, Bool.or_eq_false_iff, Int.not_le, Int.not_lt, Nat.not_le, Nat.not_lt] at h); (try simp only [nc] at h)) | refine Ob.mk ?_ ?_ | refine Chk.mk (by kernel_rfl) ?_ | refine Eq'.mk ?_ | (refine AllN.mk fun i hi => ?_; cbv) | (refine AllS.mk fun r hr => ?_; (try simp only [Dat.ok, Dat.dec, Leaf.ok, Leaf.val, Act.eta, Work.eta, Locked.eta, val_sl] at hr); cbv)
         done)
      | (cbv
         repeat' first | (refine Stp.mk ?_; cbv) | (refine Gen.mk fun r hr => ?_; (try simp only [Dat.ok, Dat.dec, Leaf.ok, Leaf.val, Act.eta, Work.eta, Locked.eta, val_sl, val_nil] at hr); cbv) | exact trivial | rfl | refine Both.mk ?_ ?_ | (refine Imp.mk fun h => ?_; (try dsimp only at h); (try simp only [nc, Int.toNat_natCast, Bool.not_eq_true', Bool.not_eq_false', decide_eq_true_eq, decide_eq_false_iff_not, beq_iff_eq, beq_eq_false_iff_ne, ba_inj, bne_iff_ne, ne_eq, Bool.and_eq_true, Bool.or_eq_true, Bool.and_eq_false_iff, Bool.or_eq_false_iff, Int.not_le, Int.not_lt, Nat.not_le, Nat.not_lt] at h); (try simp only [nc] at h)) | refine Ob.mk ?_ ?_ | refine Chk.mk (by kernel_rfl) ?_ | refine Eq'.mk ?_ | (refine AllN.mk fun i hi => ?_; cbv) | (refine AllS.mk fun r hr => ?_; (try simp only [Dat.ok, Dat.dec, Leaf.ok, Leaf.val, Act.eta, Work.eta, Locked.eta, val_sl] at hr); cbv)
         all_goals rfl
         done)
      | skip
    all_goals (
      obtain ⟨g2, rfl⟩ : ∃ g, f2 = g + 1 := ⟨f2 - 1, by omega⟩
      cbv
      repeat' first | (show Stp _; exfalso; first | omega | (exact h ‹_›) | (exact absurd ‹_› h) | (exact Bool.false_ne_true (h.symm.trans (show _ = true by assumption)))) | (refine Stp.mk ?_; cbv) | (refine Gen.mk fun r hr => ?_; (try simp only [Dat.ok, Dat.dec, Leaf.ok, Leaf.val, Act.eta, Work.eta, Locked.eta, val_sl, val_nil] at hr); cbv) | exact trivial | rfl | refine Both.mk ?_ ?_ | (refine Imp.mk fun h => ?_; (try dsimp only at h); (try simp only [nc, Int.toNat_natCast, Bool.not_eq_true', Bool.not_eq_false', decide_eq_true_eq, decide_eq_false_iff_not, beq_iff_eq, beq_eq_false_iff_ne, ba_inj, bne_iff_ne, ne_eq, Bool.and_eq_true, Bool.or_eq_true, Bool.and_eq_false_iff, Bool.or_eq_false_iff, Int.not_le, Int.not_lt, Nat.not_le, Nat.not_lt] at h); (try simp only [nc] at h)) | refine Ob.mk ?_ ?_ | refine Chk.mk (by kernel_rfl) ?_ | refine Eq'.mk ?_ | (refine AllN.mk fun i hi => ?_; cbv) | (refine AllS.mk fun r hr => ?_; (try simp only [Dat.ok, Dat.dec, Leaf.ok, Leaf.val, Act.eta, Work.eta, Locked.eta, val_sl] at hr); cbv)
      all_goals ((try dsimp only at *); (try simp only [nc, Int.toNat_natCast, Bool.not_eq_true', Bool.not_eq_false', decide_eq_true_eq, decide_eq_false_iff_not, beq_iff_eq, beq_eq_false_iff_ne, ba_inj, bne_iff_ne, ne_eq, Bool.and_eq_true, Bool.or_eq_true, Bool.and_eq_false_iff, Bool.or_eq_false_iff, Int.not_le, Int.not_lt, Nat.not_le, Nat.not_lt] at *); (try simp only [nc] at *)))
    all_goals first
      | exact n1
      | (have hc : 4294967296 ≤ p ∨ IntKind.u64.wrap (IntKind.u64.wrap (4294967296 * t) + un0) < IntKind.u64.wrap (p * yn0) := by omega
         have hp2 := dv_pos hp0 hc
         have hw1 : IntKind.u64.wrap (p - 1) = p - 1 := wrap_u64 (by omega) (by omega)
         have hcc : IntKind.u64.wrap (t + yn1) < 4294967296 := by assumption
         refine ⟨⟨p - 1, IntKind.u64.wrap (t + yn1), g2, by omega, by omega, by omega, by rw [hpe, dvR, if_pos hc, if_neg (by omega), hw1]⟩, ?_, ?_, rfl, by (try dsimp only); omega⟩
         · cbv
           repeat' first | (refine Stp.mk ?_; cbv) | (refine Gen.mk fun r hr => ?_; (try simp only [Dat.ok, Dat.dec, Leaf.ok, Leaf.val, Act.eta, Work.eta, Locked.eta, val_sl, val_nil] at hr); cbv) | exact trivial | rfl | refine Both.mk ?_ ?_ | (refine Imp.mk fun h => ?_; (try dsimp only at h); (try simp only [nc, Int.toNat_natCast, Bool.not_eq_true', Bool.not_eq_false', decide_eq_true_eq, decide_eq_false_iff_not, beq_iff_eq, beq_eq_false_iff_ne, ba_inj, bne_iff_ne, ne_eq, Bool.and_eq_true, Bool.or_eq_true, Bool.and_eq_false_iff, Bool.or_eq_false_iff, Int.not_le, Int.not_lt, Nat.not_le, Nat.not_lt] at h); (try simp only [nc] at h)) | refine Ob.mk ?_ ?_ | refine Chk.mk (by kernel_rfl) ?_ | refine Eq'.mk ?_ | (refine AllN.mk fun i hi => ?_; cbv) | (refine AllS.mk fun r hr => ?_; (try simp only [Dat.ok, Dat.dec, Leaf.ok, Leaf.val, Act.eta, Work.eta, Locked.eta, val_sl] at hr); cbv)
           all_goals first
             | rfl
             | exact hw1
             | fail
         · cbv
           repeat' first | (refine Stp.mk ?_; cbv) | (refine Gen.mk fun r hr => ?_; (try simp only [Dat.ok, Dat.dec, Leaf.ok, Leaf.val, Act.eta, Work.eta, Locked.eta, val_sl, val_nil] at hr); cbv) | exact trivial | rfl | refine Both.mk ?_ ?_ | (refine Imp.mk fun h => ?_; (try dsimp only at h); (try simp only [nc, Int.toNat_natCast, Bool.not_eq_true', Bool.not_eq_false', decide_eq_true_eq, decide_eq_false_iff_not, beq_iff_eq, beq_eq_false_iff_ne, ba_inj, bne_iff_ne, ne_eq, Bool.and_eq_true, Bool.or_eq_true, Bool.and_eq_false_iff, Bool.or_eq_false_iff, Int.not_le, Int.not_lt, Nat.not_le, Nat.not_lt] at h); (try simp only [nc] at h)) | refine Ob.mk ?_ ?_ | refine Chk.mk (by kernel_rfl) ?_ | refine Eq'.mk ?_ | (refine AllN.mk fun i hi => ?_; cbv) | (refine AllS.mk fun r hr => ?_; (try simp only [Dat.ok, Dat.dec, Leaf.ok, Leaf.val, Act.eta, Work.eta, Locked.eta, val_sl] at hr); cbv))
      | (have hb : dvR yn0 yn1 un0 (q2.toNat + 1) q2 r2 = (IntKind.u64.wrap (p - 1), IntKind.u64.wrap (t + yn1)) := by rw [hpe, dvR, if_pos (by omega), if_pos (by assumption)]
         rw [div2_eq hu2 hq2 hr2 hb])
      | (have hb : dvR yn0 yn1 un0 (q2.toNat + 1) q2 r2 = (p, t) := by rw [hpe, dvR, if_neg (by omega)]
         rw [div2_eq hu2 hq2 hr2 hb])
      | fail
theorem div64_ok : PcOk Try.prog 30 (detPC div64_D) := det_okA fun A p r h hp0 => by
  unfold div64_D at h
  split at h
  · rename_i hi lo y
    cases h
    have hp := hp0
    exact ⟨rfl, FnOk.pre (A' := [.i .u64 fun _ => hi (), .i .u64 fun _ => lo (), .i .u64 fun _ => y ()]) (div64_vc (hi ()) (lo ()) (y ()) hp) (.mk (.mk (.mk rfl) (.mk rfl)) (.mk (.mk (.mk rfl) (.mk rfl)) (.mk (.mk (.mk rfl) (.mk rfl)) (trivial))))⟩
  · cases h

end Go.Proofs.Ytobonmoinjkfbaa
