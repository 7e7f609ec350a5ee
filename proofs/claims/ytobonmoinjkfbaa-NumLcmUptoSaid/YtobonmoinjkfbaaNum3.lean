/- What two numbers leave; what all divide. -/
import Derived.Test.YtobonmoinjkfbaaNum2
set_option linter.all false
namespace Go.Proofs.Ytobonmoinjkfbaa
open Go Go.Abs

def meetK (a m b n : Int) : Int := ((b - a) / gcdV m n % (n / gcdV m n)) * (xOf m n % (n / gcdV m n)) % (n / gcdV m n)
def MeetP (a m b n : Int) : Prop := 1 ≤ m ∧ m ≤ 1000000 ∧ 1 ≤ n ∧ n ≤ 1000000 ∧ 0 ≤ a ∧ a ≤ m - 1 ∧ 0 ≤ b ∧ b ≤ n - 1
instance (a m b n : Int) : Decidable (MeetP a m b n) := by unfold MeetP; infer_instance
def meetV (a m b n : Int) : Int × Int :=
  if MeetP a m b n then (if ¬ gcdV m n ∣ b - a then (0, 7) else (a + m * meetK a m b n, 0)) else (0, 1)
theorem parts_x {m n : Int} (h1 : 1 ≤ m) (h2 : m ≤ 1000000) (h3 : 1 ≤ n) (h4 : n ≤ 1000000) : (partsV m n).1 = xOf m n := by
  rw [partsV, if_pos ⟨h1, by omega, h3, by omega⟩]
  split
  · rename_i h; rw [h]
  · rfl
theorem small_mul {x y : Int} (hx : 0 ≤ x) (hx1 : x ≤ 1000000) (hy : 0 ≤ y) (hy1 : y ≤ 1000000) : 0 ≤ x * y ∧ x * y ≤ 1000000000000 :=
  ⟨Int.mul_nonneg hx hy, Int.le_trans (Int.mul_le_mul hx1 hy1 hy (by decide)) (by decide)⟩
def meetN_R (r : Th (Int × Int)) : AV := .tup [.i .i64 fun _ => (r ()).1, .i .i64 fun _ => (r ()).2]
def meetN_D : Det := fun A => match A with
  | [.i .i64 a, .i .i64 m, .i .i64 b, .i .i64 n] => some (fun _ => True, meetN_R fun _ => meetV (a ()) (m ()) (b ()) (n ()))
  | _ => none
noncomputable def cMN : FuncId → Con := fun f => match f with
  | 15 => pureCon (detPC partsN_D)
  | 27 => pureCon (detPC gcdN_D)
  | 26 => inlCon E noCon noDraws [0, 1, 2, 6] Try.f26
  | _ => fun _ _ _ => Bad 1001
theorem cMN_ok : ConOk Try.prog cMN := fun f A H K h => by
  unfold cMN at h
  split at h
  · exact ⟨⟨Try.f15, Try.func15, by kernel_rfl, by kernel_rfl⟩, pureCon_ok partsN_ok h⟩
  · exact ⟨⟨Try.f27, Try.func27, by kernel_rfl, by kernel_rfl⟩, pureCon_ok gcdN_ok h⟩
  · exact ⟨⟨Try.f26, Try.func26, by kernel_rfl, by kernel_rfl⟩, inl_ok envOk zl noCon_ok noDraws_ok Try.func26 h⟩
  · cases h
def dMN : FuncId → Option Dt := fun f => match f with
  | 15 => some (.c partsN_D)
  | 27 => some (.c gcdN_D)
  | _ => none
theorem dMN_ok : DetOk Try.prog dMN := fun f d h => by
  unfold dMN at h
  split at h
  · cases h; exact ⟨⟨Try.f15, Try.func15, by kernel_rfl, by kernel_rfl⟩, partsN_ok⟩
  · cases h; exact ⟨⟨Try.f27, Try.func27, by kernel_rfl, by kernel_rfl⟩, gcdN_ok⟩
  · cases h
set_option maxRecDepth 100000 in
set_option maxHeartbeats 4000000 in
theorem meetN_vc (a : Int) (m : Int) (b : Int) (n : Int) : FnOk Try.prog 16 [.i .i64 fun _ => a, .i .i64 fun _ => m, .i .i64 fun _ => b, .i .i64 fun _ => n] [] (outA (meetN_R fun _ => meetV a m b n) []) := by
  refine fn_ok envOk zl cMN_ok (draws_ok envOk zl dMN_ok mixed) (keep := [0, 1, 2, 3, 8, 9, 10, 13, 14, 36, 52]) Try.func16 rfl ?_
  cbv
  repeat' first | (show Stp _; exfalso; first | omega | (exact h ‹_›) | (exact absurd ‹_› h) | (exact Bool.false_ne_true (h.symm.trans (show _ = true by assumption)))) | (refine Stp.mk ?_; cbv) | (refine Gen.mk fun r hr => ?_; (try simp only [Dat.ok, Dat.dec, Leaf.ok, Leaf.val, Act.eta, Work.eta, Locked.eta, val_sl, val_nil] at hr); cbv) | exact trivial | rfl | refine Both.mk ?_ ?_ | (refine Imp.mk fun h => ?_; (try dsimp only at h); (try simp only [nc, Int.toNat_natCast, Bool.not_eq_true', Bool.not_eq_false', decide_eq_true_eq, decide_eq_false_iff_not, beq_iff_eq, beq_eq_false_iff_ne, ba_inj, bne_iff_ne, ne_eq, Bool.and_eq_true, Bool.or_eq_true, Bool.and_eq_false_iff, Bool.or_eq_false_iff, Int.not_le, Int.not_lt, Nat.not_le, Nat.not_lt] at h); (try simp only [nc] at h)) | refine Ob.mk ?_ ?_ | refine Chk.mk (by kernel_rfl) ?_ | refine Eq'.mk ?_ | (refine AllN.mk fun i hi => ?_; cbv) | (refine AllS.mk fun r hr => ?_; (try simp only [Dat.ok, Dat.dec, Leaf.ok, Leaf.val, Act.eta, Work.eta, Locked.eta, val_sl] at hr); cbv)
  all_goals ((try dsimp only at *); (try simp only [nc, Int.toNat_natCast, Bool.not_eq_true', Bool.not_eq_false', decide_eq_true_eq, decide_eq_false_iff_not, beq_iff_eq, beq_eq_false_iff_ne, ba_inj, bne_iff_ne, ne_eq, Bool.and_eq_true, Bool.or_eq_true, Bool.and_eq_false_iff, Bool.or_eq_false_iff, Int.not_le, Int.not_lt, Nat.not_le, Nat.not_lt] at *); (try simp only [nc] at *))
  all_goals first
    | (rw [meetV, if_neg (by unfold MeetP; omega)]; done)
    | (unfold InR; omega)
    | skip
  all_goals have hM : MeetP a m b n := ⟨by assumption, by assumption, by assumption, by assumption, by assumption, by assumption, by assumption, by assumption⟩
  all_goals obtain ⟨p1, p2, p3, p4, p5, p6, p7, p8⟩ := id hM
  all_goals have hgf := gcd_facts p1 p3
  all_goals have hx := x_facts (a := m) (b := n) p1 (by omega) p3 (by omega)
  all_goals have en : n.tdiv (gcdV m n) = n / gcdV m n := Int.tdiv_eq_ediv_of_nonneg (by omega)
  all_goals try rw [en]
  all_goals try rw [parts_x p1 p2 p3 p4]
  all_goals try (have hdv : gcdV m n ∣ b - a := Int.dvd_of_tmod_eq_zero h)
  all_goals try (have ed : (b - a).tdiv (gcdV m n) = (b - a) / gcdV m n := Int.tdiv_eq_ediv_of_dvd hdv)
  all_goals try rw [ed]
  all_goals try rw [emod_t hx.2.1]
  all_goals have z0 := Int.emod_nonneg ((b - a) / gcdV m n) (show n / gcdV m n ≠ 0 by omega)
  all_goals have z1 := Int.emod_lt_of_pos ((b - a) / gcdV m n) (show 0 < n / gcdV m n by omega)
  all_goals have t1 : -(n / gcdV m n) < ((b - a) / gcdV m n).tmod (n / gcdV m n) := Int.lt_tmod_of_pos _ (by omega)
  all_goals have t2 : ((b - a) / gcdV m n).tmod (n / gcdV m n) < n / gcdV m n := Int.tmod_lt_of_pos _ (by omega)
  all_goals have ex : (xOf m n).tmod (n / gcdV m n) = xOf m n % (n / gcdV m n) := Int.tmod_eq_emod_of_nonneg (by omega)
  all_goals try rw [ex]
  all_goals have z2 := Int.emod_nonneg (xOf m n) (show n / gcdV m n ≠ 0 by omega)
  all_goals have z3 := Int.emod_lt_of_pos (xOf m n) (show 0 < n / gcdV m n by omega)
  all_goals have hs := small_mul z0 (by omega) z2 (by omega)
  all_goals have ek : ((b - a) / gcdV m n % (n / gcdV m n) * (xOf m n % (n / gcdV m n))).tmod (n / gcdV m n) = meetK a m b n := Int.tmod_eq_emod_of_nonneg hs.1
  all_goals try rw [ek]
  all_goals have z4 : 0 ≤ meetK a m b n := Int.emod_nonneg _ (by omega)
  all_goals have z5 : meetK a m b n < n / gcdV m n := Int.emod_lt_of_pos _ (by omega)
  all_goals have hs2 := small_mul (show 0 ≤ m by omega) p2 z4 (by omega)
  all_goals first
    | omega
    | exact ⟨by omega, by omega⟩
    | (unfold InR; omega)
    | (have hnd : ¬ gcdV m n ∣ b - a := fun q => h (Int.tmod_eq_zero_of_dvd q)
       rw [meetV, if_pos hM, if_pos hnd]; done)
    | (rw [meetV, if_pos hM, if_neg (by simpa using hdv)]; done)
    | (refine ⟨by omega, ?_⟩
       unfold InR
       have w1 := Int.natAbs_ediv_le_natAbs (b - a) (gcdV m n)
       omega)
    | fail
theorem meetN_ok : PcOk Try.prog 16 (detPC meetN_D) := det_okA fun A p r h hp0 => by
  unfold meetN_D at h
  split at h
  · rename_i a m b n
    cases h
    exact ⟨rfl, FnOk.pre (A' := [.i .i64 fun _ => a (), .i .i64 fun _ => m (), .i .i64 fun _ => b (), .i .i64 fun _ => n ()]) (meetN_vc (a ()) (m ()) (b ()) (n ())) (.mk (.mk (.mk rfl) (.mk rfl)) (.mk (.mk (.mk rfl) (.mk rfl)) (.mk (.mk (.mk rfl) (.mk rfl)) (.mk (.mk (.mk rfl) (.mk rfl)) (trivial)))))⟩
  · cases h

end Go.Proofs.Ytobonmoinjkfbaa
