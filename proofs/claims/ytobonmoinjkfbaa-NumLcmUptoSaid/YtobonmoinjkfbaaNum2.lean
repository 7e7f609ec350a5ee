/- How often of each makes what both share. -/
import Derived.Test.YtobonmoinjkfbaaNumP
import Derived.Test.YtobonmoinjkfbaaBits2
set_option linter.all false
namespace Go.Proofs.Ytobonmoinjkfbaa
open Go Go.Abs

def xOf (a b : Int) : Int := (exR (b.toNat + 1) a 1 b 0).2 % (b / gcdV a b)
def partsV (a b : Int) : Int × Int × Int :=
  if 1 ≤ a ∧ a ≤ 1099511627776 ∧ 1 ≤ b ∧ b ≤ 1099511627776 then
    (if xOf a b = 0 then (0, 1, 0) else
      (xOf a b, IntKind.i64.wrap (0 - IntKind.i64.wrap (divV (IntKind.u64.wrap ((mulV (xOf a b) a).1 - (if (mulV (xOf a b) a).2 < gcdV a b then 1 else 0))) (((mulV (xOf a b) a).2 + 18446744073709551616 - gcdV a b) % 18446744073709551616) b).1), 0))
  else (0, 0, 1)
theorem emod_t {x s : Int} (hs : 1 ≤ s) : (x.tmod s + s).tmod s = x % s := by
  have h3 : -s < x.tmod s := Int.lt_tmod_of_pos x (by omega)
  rw [Int.tmod_eq_emod_of_nonneg (by omega), Int.add_emod_right]
  have h1 : (x.tdiv s) * s + x.tmod s = x := Int.tdiv_mul_add_tmod x s
  conv => rhs; rw [← h1]
  rw [Int.add_comm, Int.add_mul_emod_self_right]
theorem gcd_facts {a b : Int} (ha : 1 ≤ a) (hb : 1 ≤ b) : 1 ≤ gcdV a b ∧ gcdV a b ≤ a ∧ gcdV a b ≤ b ∧ gcdV a b ∣ a ∧ gcdV a b ∣ b := by
  have h1 : gcdV a b ∣ a := Int.gcd_dvd_left ..
  have h2 : gcdV a b ∣ b := Int.gcd_dvd_right ..
  have h3 : 0 < Int.gcd a b := Int.gcd_pos_of_ne_zero_left b (by omega)
  refine ⟨by unfold gcdV; omega, Int.le_of_dvd (by omega) h1, Int.le_of_dvd (by omega) h2, h1, h2⟩
theorem x_facts {a b : Int} (ha : 1 ≤ a) (ha2 : a ≤ 1099511627776) (hb : 1 ≤ b) (hb2 : b ≤ 1099511627776) :
    (exR (b.toNat + 1) a 1 b 0).1 = gcdV a b ∧ 1 ≤ b / gcdV a b ∧ b / gcdV a b ≤ b ∧ gcdV a b * (b / gcdV a b) = b ∧ 0 ≤ xOf a b ∧ xOf a b < b / gcdV a b ∧ b ∣ xOf a b * a - gcdV a b := by
  obtain ⟨s1, s2, s3, s4⟩ := exR_spec hb hb2 (b.toNat + 1) a 1 b 0 (ExI.start ha ha2 hb hb2) (Nat.lt_succ_self _)
  obtain ⟨g1, g2, g3, g4, g5⟩ := gcd_facts ha hb
  have e1 : gcdV a b * (b / gcdV a b) = b := Int.mul_ediv_cancel' g5
  have e2 : 1 ≤ b / gcdV a b := (Int.le_ediv_iff_mul_le (by omega)).2 (by omega)
  have e3 : b / gcdV a b ≤ b := Int.ediv_le_self _ (by omega)
  refine ⟨s3.symm, e2, e3, e1, Int.emod_nonneg _ (by omega), Int.emod_lt_of_pos _ (by omega), ?_⟩
  unfold xOf
  rw [← s3] at s4
  generalize (exR (b.toNat + 1) a 1 b 0).2 = x at *
  rw [Int.emod_def]
  obtain ⟨u, hu⟩ := s4
  obtain ⟨v, hv⟩ := g4
  refine ⟨u - x / (b / gcdV a b) * v, ?_⟩
  generalize gcdV a b = g at *
  generalize b / g = st at *
  generalize x / st = q at *
  grind
theorem mul_facts {x a r b : Int} (hx : 1 ≤ x) (hxb : x < b) (ha : 1 ≤ a) (ha2 : a ≤ 1099511627776) (hb2 : b ≤ 1099511627776) (hr : 1 ≤ r) (hra : r ≤ a) :
    0 ≤ (mulV x a).1 ∧ (mulV x a).1 ≤ 18446744073709551615 ∧ 0 ≤ (mulV x a).2 ∧ (mulV x a).2 < 18446744073709551616 ∧ 0 ≤ IntKind.u64.wrap ((mulV x a).1 - (if (mulV x a).2 < r then 1 else 0)) ∧ IntKind.u64.wrap ((mulV x a).1 - (if (mulV x a).2 < r then 1 else 0)) < b := by
  have k1 : x * 1 ≤ x * a := Int.mul_le_mul_of_nonneg_left ha (by omega)
  have k2 : x * a ≤ x * 1099511627776 := Int.mul_le_mul_of_nonneg_left ha2 (by omega)
  have k3 : 1 * a ≤ x * a := Int.mul_le_mul_of_nonneg_right hx (by omega)
  unfold mulV
  simp only
  generalize x * a = z at *
  split
  · rename_i h
    rw [wrap_u64 (by omega) (by omega)]
    refine ⟨by omega, by omega, by omega, by omega, by omega, by omega⟩
  · rename_i h
    rw [wrap_u64 (by omega) (by omega)]
    refine ⟨by omega, by omega, by omega, by omega, by omega, by omega⟩
structure PaX (a b : Int) where
  r : Int
  x : Int
  t : Int
  s : Int
  f : Nat
  h : ExI a b r x t s
  hf : t.toNat < f
  he : exR (b.toNat + 1) a 1 b 0 = exR f r x t s
def partsN_R (r : Th (Int × Int × Int)) : AV := .tup [.i .i64 fun _ => (r ()).1, .i .i64 fun _ => (r ()).2.1, .i .i64 fun _ => (r ()).2.2]
def partsN_D : Det := fun A => match A with
  | [.i .i64 a, .i .i64 b] => some (fun _ => True, partsN_R fun _ => partsV (a ()) (b ()))
  | _ => none
noncomputable def cPN : FuncId → Con := fun f => match f with
  | 28 => pureCon (detPC mul64_D)
  | 30 => pureCon (detPC div64_D)
  | 26 => inlCon E noCon noDraws [0, 1, 2, 6] Try.f26
  | _ => fun _ _ _ => Bad 1001
theorem cPN_ok : ConOk Try.prog cPN := fun f A H K h => by
  unfold cPN at h
  split at h
  · exact ⟨⟨Try.f28, Try.func28, by kernel_rfl, by kernel_rfl⟩, pureCon_ok mul64_ok h⟩
  · exact ⟨⟨Try.f30, Try.func30, by kernel_rfl, by kernel_rfl⟩, pureCon_ok div64_ok h⟩
  · exact ⟨⟨Try.f26, Try.func26, by kernel_rfl, by kernel_rfl⟩, inl_ok envOk zl noCon_ok noDraws_ok Try.func26 h⟩
  · cases h
def dPN : FuncId → Option Dt := fun f => match f with
  | 28 => some (.c mul64_D)
  | 30 => some (.c div64_D)
  | _ => none
theorem dPN_ok : DetOk Try.prog dPN := fun f d h => by
  unfold dPN at h
  split at h
  · cases h; exact ⟨⟨Try.f28, Try.func28, by kernel_rfl, by kernel_rfl⟩, mul64_ok⟩
  · cases h; exact ⟨⟨Try.f30, Try.func30, by kernel_rfl, by kernel_rfl⟩, div64_ok⟩
  · cases h
set_option maxRecDepth 100000 in
set_option maxHeartbeats 4000000 in
theorem partsN_vc (a : Int) (b : Int) : FnOk Try.prog 15 [.i .i64 fun _ => a, .i .i64 fun _ => b] [] (outA (partsN_R fun _ => partsV a b) []) := by
  refine fn_ok (envOkW [85]) (zlW [85]) cPN_ok (draws_ok (envOkW [85]) (zlW [85]) dPN_ok mixed) (keep := [0, 1, 4, 5, 6, 7, 8, 9, 10, 11, 12, 13, 14, 15, 16, 25, 29, 56]) Try.func15 rfl ?_
  cbv
  repeat' first | (show Stp _; exfalso; first | omega | (exact h ‹_›) | (exact absurd ‹_› h) | (exact Bool.false_ne_true (h.symm.trans (show _ = true by assumption)))) | (refine Stp.mk ?_; cbv) | (refine Gen.mk fun r hr => ?_; (try simp only [Dat.ok, Dat.dec, Leaf.ok, Leaf.val, Act.eta, Work.eta, Locked.eta, val_sl, val_nil] at hr); cbv) | exact trivial | rfl | refine Both.mk ?_ ?_ | (refine Imp.mk fun h => ?_; (try dsimp only at h); (try simp only [nc, Int.toNat_natCast, Bool.not_eq_true', Bool.not_eq_false', decide_eq_true_eq, decide_eq_false_iff_not, beq_iff_eq, beq_eq_false_iff_ne, ba_inj, bne_iff_ne, ne_eq, Bool.and_eq_true, Bool.or_eq_true, Bool.and_eq_false_iff, Bool.or_eq_false_iff, Int.not_le, Int.not_lt, Nat.not_le, Nat.not_lt] at h); (try simp only [nc] at h)) | refine Ob.mk ?_ ?_ | refine Chk.mk (by kernel_rfl) ?_ | refine Eq'.mk ?_ | (refine AllN.mk fun i hi => ?_; cbv) | (refine AllS.mk fun r hr => ?_; (try simp only [Dat.ok, Dat.dec, Leaf.ok, Leaf.val, Act.eta, Work.eta, Locked.eta, val_sl] at hr); cbv)
  all_goals ((try dsimp only at *); (try simp only [nc, Int.toNat_natCast, Bool.not_eq_true', Bool.not_eq_false', decide_eq_true_eq, decide_eq_false_iff_not, beq_iff_eq, beq_eq_false_iff_ne, ba_inj, bne_iff_ne, ne_eq, Bool.and_eq_true, Bool.or_eq_true, Bool.and_eq_false_iff, Bool.or_eq_false_iff, Int.not_le, Int.not_lt, Nat.not_le, Nat.not_lt] at *); (try simp only [nc] at *))
  all_goals first
    | (rw [partsV, if_neg (by omega)]; done)
    | skip
  obtain ⟨ha, ha2, hb, hb2⟩ : 1 ≤ a ∧ a ≤ 1099511627776 ∧ 1 ≤ b ∧ b ≤ 1099511627776 := ⟨by assumption, by assumption, by assumption, by assumption⟩
  have hst := ExI.start ha ha2 hb hb2
  refine LoopVC.frame [7, 8, 9, 10, 11, 29] (PaX a b) (fun x => [(7, .i .i64 fun _ => x.r), (8, .i .i64 fun _ => x.x), (9, .i .i64 fun _ => x.t), (10, .i .i64 fun _ => x.s)]) (fun _ => []) [] (fun x => x.t.toNat) ⟨a, 1, b, 0, b.toNat + 1, hst, Nat.lt_succ_self _, rfl⟩ rfl (fun _ => rfl) ?_ ?_ fun ⟨r, x, t, s, f, h_, hf, he⟩ => ?_
  · cbv
    repeat' first | (refine Stp.mk ?_; cbv) | (refine Gen.mk fun r hr => ?_; (try simp only [Dat.ok, Dat.dec, Leaf.ok, Leaf.val, Act.eta, Work.eta, Locked.eta, val_sl, val_nil] at hr); cbv) | exact trivial | rfl | refine Both.mk ?_ ?_ | (refine Imp.mk fun h => ?_; (try dsimp only at h); (try simp only [nc, Int.toNat_natCast, Bool.not_eq_true', Bool.not_eq_false', decide_eq_true_eq, decide_eq_false_iff_not, beq_iff_eq, beq_eq_false_iff_ne, ba_inj, bne_iff_ne, ne_eq, Bool.and_eq_true, Bool.or_eq_true, Bool.and_eq_false_iff, Bool.or_eq_false_iff, Int.not_le, Int.not_lt, Nat.not_le, Nat.not_lt] at h); (try simp only [nc] at h)) | refine Ob.mk ?_ ?_ | refine Chk.mk (by kernel_rfl) ?_ | refine Eq'.mk ?_ | (refine AllN.mk fun i hi => ?_; cbv) | (refine AllS.mk fun r hr => ?_; (try simp only [Dat.ok, Dat.dec, Leaf.ok, Leaf.val, Act.eta, Work.eta, Locked.eta, val_sl] at hr); cbv)
  · cbv
    repeat' first | (refine Stp.mk ?_; cbv) | (refine Gen.mk fun r hr => ?_; (try simp only [Dat.ok, Dat.dec, Leaf.ok, Leaf.val, Act.eta, Work.eta, Locked.eta, val_sl, val_nil] at hr); cbv) | exact trivial | rfl | refine Both.mk ?_ ?_ | (refine Imp.mk fun h => ?_; (try dsimp only at h); (try simp only [nc, Int.toNat_natCast, Bool.not_eq_true', Bool.not_eq_false', decide_eq_true_eq, decide_eq_false_iff_not, beq_iff_eq, beq_eq_false_iff_ne, ba_inj, bne_iff_ne, ne_eq, Bool.and_eq_true, Bool.or_eq_true, Bool.and_eq_false_iff, Bool.or_eq_false_iff, Int.not_le, Int.not_lt, Nat.not_le, Nat.not_lt] at h); (try simp only [nc] at h)) | refine Ob.mk ?_ ?_ | refine Chk.mk (by kernel_rfl) ?_ | refine Eq'.mk ?_ | (refine AllN.mk fun i hi => ?_; cbv) | (refine AllS.mk fun r hr => ?_; (try simp only [Dat.ok, Dat.dec, Leaf.ok, Leaf.val, Act.eta, Work.eta, Locked.eta, val_sl] at hr); cbv)
  · obtain ⟨g, rfl⟩ : ∃ g, f = g + 1 := ⟨f - 1, by omega⟩
    cbv
    repeat' first | (show Stp _; exfalso; first | omega | (exact h ‹_›) | (exact absurd ‹_› h) | (exact Bool.false_ne_true (h.symm.trans (show _ = true by assumption)))) | (refine Stp.mk ?_; cbv) | (refine Gen.mk fun r hr => ?_; (try simp only [Dat.ok, Dat.dec, Leaf.ok, Leaf.val, Act.eta, Work.eta, Locked.eta, val_sl, val_nil] at hr); cbv) | exact trivial | rfl | refine Both.mk ?_ ?_ | (refine Imp.mk fun h => ?_; (try dsimp only at h); (try simp only [nc, Int.toNat_natCast, Bool.not_eq_true', Bool.not_eq_false', decide_eq_true_eq, decide_eq_false_iff_not, beq_iff_eq, beq_eq_false_iff_ne, ba_inj, bne_iff_ne, ne_eq, Bool.and_eq_true, Bool.or_eq_true, Bool.and_eq_false_iff, Bool.or_eq_false_iff, Int.not_le, Int.not_lt, Nat.not_le, Nat.not_lt] at h); (try simp only [nc] at h)) | refine Ob.mk ?_ ?_ | refine Chk.mk (by kernel_rfl) ?_ | refine Eq'.mk ?_ | (refine AllN.mk fun i hi => ?_; cbv) | (refine AllS.mk fun r hr => ?_; (try simp only [Dat.ok, Dat.dec, Leaf.ok, Leaf.val, Act.eta, Work.eta, Locked.eta, val_sl] at hr); cbv)
    all_goals ((try dsimp only at *); (try simp only [nc, Int.toNat_natCast, Bool.not_eq_true', Bool.not_eq_false', decide_eq_true_eq, decide_eq_false_iff_not, beq_iff_eq, beq_eq_false_iff_ne, ba_inj, bne_iff_ne, ne_eq, Bool.and_eq_true, Bool.or_eq_true, Bool.and_eq_false_iff, Bool.or_eq_false_iff, Int.not_le, Int.not_lt, Nat.not_le, Nat.not_lt] at *); (try simp only [nc] at *))
    all_goals have hr1 := h_.r1
    all_goals have hrb := h_.rb
    all_goals have htb := h_.tb
    all_goals have ht0 := h_.t0
    all_goals have etd : r.tdiv t = r / t := Int.tdiv_eq_ediv_of_nonneg (by omega)
    all_goals try (have hn := h_.next (by assumption) hb hb2)
    all_goals try (have hbd := h_.bd hb hb2)
    all_goals try rw [etd]
    all_goals first
      | (refine ⟨by omega, ?_⟩; unfold InR; omega)
      | (unfold InR; omega)
      | (refine ⟨⟨t, s, r - r / t * t, x - r / t * s, g, hn.1, by omega, by rw [he, exR, if_pos (by assumption)]⟩, ?_, ?_, rfl, by (try dsimp only); omega⟩
         · cbv
           repeat' first | (refine Stp.mk ?_; cbv) | (refine Gen.mk fun r hr => ?_; (try simp only [Dat.ok, Dat.dec, Leaf.ok, Leaf.val, Act.eta, Work.eta, Locked.eta, val_sl, val_nil] at hr); cbv) | exact trivial | rfl | refine Both.mk ?_ ?_ | (refine Imp.mk fun h => ?_; (try dsimp only at h); (try simp only [nc, Int.toNat_natCast, Bool.not_eq_true', Bool.not_eq_false', decide_eq_true_eq, decide_eq_false_iff_not, beq_iff_eq, beq_eq_false_iff_ne, ba_inj, bne_iff_ne, ne_eq, Bool.and_eq_true, Bool.or_eq_true, Bool.and_eq_false_iff, Bool.or_eq_false_iff, Int.not_le, Int.not_lt, Nat.not_le, Nat.not_lt] at h); (try simp only [nc] at h)) | refine Ob.mk ?_ ?_ | refine Chk.mk (by kernel_rfl) ?_ | refine Eq'.mk ?_ | (refine AllN.mk fun i hi => ?_; cbv) | (refine AllS.mk fun r hr => ?_; (try simp only [Dat.ok, Dat.dec, Leaf.ok, Leaf.val, Act.eta, Work.eta, Locked.eta, val_sl] at hr); cbv)
           all_goals first
             | rfl
             | (rw [etd]; done)
             | fail
         · cbv
           repeat' first | (refine Stp.mk ?_; cbv) | (refine Gen.mk fun r hr => ?_; (try simp only [Dat.ok, Dat.dec, Leaf.ok, Leaf.val, Act.eta, Work.eta, Locked.eta, val_sl, val_nil] at hr); cbv) | exact trivial | rfl | refine Both.mk ?_ ?_ | (refine Imp.mk fun h => ?_; (try dsimp only at h); (try simp only [nc, Int.toNat_natCast, Bool.not_eq_true', Bool.not_eq_false', decide_eq_true_eq, decide_eq_false_iff_not, beq_iff_eq, beq_eq_false_iff_ne, ba_inj, bne_iff_ne, ne_eq, Bool.and_eq_true, Bool.or_eq_true, Bool.and_eq_false_iff, Bool.or_eq_false_iff, Int.not_le, Int.not_lt, Nat.not_le, Nat.not_lt] at h); (try simp only [nc] at h)) | refine Ob.mk ?_ ?_ | refine Chk.mk (by kernel_rfl) ?_ | refine Eq'.mk ?_ | (refine AllN.mk fun i hi => ?_; cbv) | (refine AllS.mk fun r hr => ?_; (try simp only [Dat.ok, Dat.dec, Leaf.ok, Leaf.val, Act.eta, Work.eta, Locked.eta, val_sl] at hr); cbv))
      | skip
    all_goals (
      have hx := x_facts ha ha2 hb hb2
      have hex : exR (b.toNat + 1) a 1 b 0 = (r, x) := by rw [he, exR, if_neg (by omega)]
      have hrg : r = gcdV a b := by rw [← hx.1, hex]
      have htb2 : b.tdiv r = b / gcdV a b := by rw [hrg]; exact Int.tdiv_eq_ediv_of_nonneg (by omega)
      have hxo : (x.tmod (b / gcdV a b) + b / gcdV a b).tmod (b / gcdV a b) = xOf a b := by rw [emod_t hx.2.1]; unfold xOf; rw [hex]
      have hgf := gcd_facts ha hb
      have t1 : -(b / gcdV a b) < x.tmod (b / gcdV a b) := Int.lt_tmod_of_pos x (by omega)
      have t2 : x.tmod (b / gcdV a b) < b / gcdV a b := Int.tmod_lt_of_pos x (by omega)
      try rw [htb2, hxo] at h
      try rw [htb2])
    all_goals first
      | omega
      | (refine ⟨by omega, ?_⟩; unfold InR; omega)
      | (unfold InR; omega)
      | skip
    all_goals try rw [hxo]
    all_goals have w1 : IntKind.u64.wrap (xOf a b) = xOf a b := wrap_u64 (by omega) (by omega)
    all_goals have w2 : IntKind.u64.wrap a = a := wrap_u64 (by omega) (by omega)
    all_goals have w3 : IntKind.u64.wrap r = gcdV a b := by rw [wrap_u64 (by omega) (by omega), hrg]
    all_goals have w4 : IntKind.u64.wrap b = b := wrap_u64 (by omega) (by omega)
    all_goals try rw [w1, w2]
    all_goals try rw [w3]
    all_goals try rw [w4]
    all_goals first
      | (rw [partsV, if_pos ⟨ha, ha2, hb, hb2⟩, if_pos h]; done)
      | (rw [partsV, if_pos ⟨ha, ha2, hb, hb2⟩, if_neg h]; done)
      | (have e := congrArg (fun z => z.2.1) (show partsV a b = _ by rw [partsV, if_pos ⟨ha, ha2, hb, hb2⟩, if_neg h])
         exact e.symm)
      | (have hm := mul_facts (x := xOf a b) (a := a) (r := gcdV a b) (b := b) (by omega) (by omega) ha ha2 hb2 (by omega) (by omega)
         first
           | exact ⟨hm.2.2.1, by omega, by omega, trivial⟩
           | exact (show _ ∧ _ ∧ _ ∧ _ from ⟨by omega, by omega, by omega, by omega⟩)
           | exact (show _ ∧ _ ∧ _ ∧ _ ∧ _ from ⟨hm.2.2.2.2.1, hm.2.2.2.2.2, by omega, by omega, by omega⟩))
      | fail
theorem partsN_ok : PcOk Try.prog 15 (detPC partsN_D) := det_okA fun A p r h hp0 => by
  unfold partsN_D at h
  split at h
  · rename_i a b
    cases h
    exact ⟨rfl, FnOk.pre (A' := [.i .i64 fun _ => a (), .i .i64 fun _ => b ()]) (partsN_vc (a ()) (b ())) (.mk (.mk (.mk rfl) (.mk rfl)) (.mk (.mk (.mk rfl) (.mk rfl)) (trivial)))⟩
  · cases h

end Go.Proofs.Ytobonmoinjkfbaa
