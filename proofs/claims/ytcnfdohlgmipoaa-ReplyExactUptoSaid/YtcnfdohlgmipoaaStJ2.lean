/- slices.SortStableFunc of jobs: a row turned about. -/
import Derived.Test.YtcnfdohlgmipoaaStJ1
set_option linter.all false
namespace Go.Proofs.Ytcnfdohlgmipoaa
open Go Go.Abs

def rotL {α : Type} (l : List α) (a m b : Nat) : List α := l.take a ++ (l.drop m).take (b - m) ++ (l.drop a).take (m - a) ++ l.drop b
theorem swapU_parts {P X Y Z Q : List job} (hXZ : X.length = Z.length) : swapU (P ++ X ++ Y ++ Z ++ Q) P.length (P.length + X.length + Y.length) X.length jd0 = P ++ Z ++ Y ++ X ++ Q := by
  apply List.ext_getElem
  · rw [swapU_len]; simp; omega
  · intro i h1 h2
    rw [swapU_len] at h1
    have e := swapU_get (P ++ X ++ Y ++ Z ++ Q) P.length (P.length + X.length + Y.length) X.length jd0 (i := i) h1
    rw [List.getD_eq_getElem?_getD, List.getElem?_eq_getElem (by rw [swapU_len]; exact h1), Option.getD_some] at e
    rw [e]
    have h3 : (P ++ Z ++ Y ++ X ++ Q)[i] = (P ++ Z ++ Y ++ X ++ Q).getD i jd0 := by rw [List.getD_eq_getElem?_getD, List.getElem?_eq_getElem h2, Option.getD_some]
    rw [h3]
    simp only [List.append_assoc, List.getD_eq_getElem?_getD, List.getElem?_append]
    simp only [List.length_append] at h1
    repeat' split
    all_goals first
      | omega
      | (congr 2; omega)
      | rfl
theorem rotL_len {α : Type} {l : List α} {a m b : Nat} (h1 : a ≤ m) (h2 : m ≤ b) (h3 : b ≤ l.length) : (rotL l a m b).length = l.length := by
  simp [rotL]; omega
noncomputable def cRt : FuncId → Con := fun f => match f with
  | 61 => swR_K
  | _ => fun _ _ _ => Bad 1001
theorem cRt_ok : ConOk Try.prog cRt := fun f A H K h => by
  unfold cRt at h
  split at h
  · exact ⟨⟨Try.f61, Try.func61, by kernel_rfl, by kernel_rfl⟩, swR_ok h⟩
  · cases h
def rotR_P (l : List job) (a : Int) (m : Int) (b : Int) : Prop := 0 ≤ a ∧ a < m ∧ m < b ∧ b ≤ l.length ∧ l.length ≤ 1048576
def rotR_F (l : List job) (a : Int) (m : Int) (b : Int) : List job := rotL l a.toNat m.toNat b.toNat
def rotR_S : OwnS job := { pre := fun r l => match r with | [.i .i64 a, .i .i64 m, .i .i64 b, .fn 29 []] => rotR_P l (a ()) (m ()) (b ()) | _ => False, fin := fun r l => match r with | [.i .i64 a, .i .i64 m, .i .i64 b, .fn 29 []] => rotR_F l (a ()) (m ()) (b ()) | _ => l, res := none, kl := false }
noncomputable def rotR_K : Con := ownCon job 70 rotR_S
structure RtX (m n : Nat) (R : List job) where
  P : List job
  U : List job
  V : List job
  Q : List job
  hm : P.length + U.length = m
  hU : 0 < U.length
  hV : 0 < V.length
  hn : P.length + U.length + V.length + Q.length = n
  hR : P ++ V ++ U ++ Q = R
set_option maxRecDepth 100000 in
set_option maxHeartbeats 4000000 in
theorem rotR_vc (l : List job) (a : Int) (m : Int) (b : Int) (hp : rotR_P l a m b) : FnOk Try.prog 59 [.own 0 fun _ => l.length, .i .i64 fun _ => a, .i .i64 fun _ => m, .i .i64 fun _ => b, .fn 29 []] [vecO 70 fun _ => l] (outLe 1 (.tup []) [vecO 70 fun _ => rotR_F l a m b] []) := by
  refine fn_ok envOk zl cRt_ok noDraws_ok (keep := [0, 1, 2, 3, 4, 10, 11, 20, 23]) Try.func59 rfl ?_
  obtain ⟨h1, h2, h3, h4, h5⟩ := hp
  obtain ⟨A, rfl⟩ := Int.eq_ofNat_of_zero_le h1
  obtain ⟨M, rfl⟩ := Int.eq_ofNat_of_zero_le (show 0 ≤ m by omega)
  obtain ⟨B, rfl⟩ := Int.eq_ofNat_of_zero_le (show 0 ≤ b by omega)
  have k2 : A < M := by omega
  have k3 : M < B := by omega
  have k4 : B ≤ l.length := by omega
  have hcut : l = l.take A ++ (l.drop A).take (M - A) ++ (l.drop M).take (B - M) ++ l.drop B := by
    have e1 : l.drop M = (l.drop M).take (B - M) ++ l.drop B := by
      have := List.take_append_drop (B - M) (l.drop M)
      rw [List.drop_drop, show M + (B - M) = B by omega] at this
      exact this.symm
    have e2 : l.drop A = (l.drop A).take (M - A) ++ l.drop M := by
      have := List.take_append_drop (M - A) (l.drop A)
      rw [List.drop_drop, show A + (M - A) = M by omega] at this
      exact this.symm
    have e3 := (List.take_append_drop A l).symm
    rw [e2, e1] at e3
    simpa [List.append_assoc] using e3
  cbv
  repeat' first | (show Stp _; exfalso; first | omega | (exact h ‹_›) | (exact absurd ‹_› h) | (exact Bool.false_ne_true (h.symm.trans (show _ = true by assumption)))) | (refine Stp.mk ?_; cbv) | (refine Gen.mk fun r hr => ?_; (try simp only [Dat.ok, Dat.dec, Leaf.ok, Leaf.val, Span.eta, Set.eta, Task.eta, Done.eta, job.eta, Late.eta, val_sl, val_nil] at hr); cbv) | exact trivial | rfl | refine Both.mk ?_ ?_ | (refine Imp.mk fun h => ?_; (try dsimp only at h); (try simp only [nc, Int.toNat_natCast, ne_eq, zz] at h); (try simp only [nc] at h)) | refine Ob.mk ?_ ?_ | refine Chk.mk (by kernel_rfl) ?_ | refine Eq'.mk ?_ | (refine AllN.mk fun i hi => ?_; cbv) | (refine AllC.mk fun c hc hcm => ?_; (try dsimp only at hc); cbv) | (refine AllS.mk fun r hr => ?_; (try simp only [Dat.ok, Dat.dec, Leaf.ok, Leaf.val, Span.eta, Set.eta, Task.eta, Done.eta, job.eta, Late.eta, val_sl] at hr); cbv)
  all_goals ((try dsimp only at *); (try simp only [nc, Int.toNat_natCast, ne_eq, zz] at *); (try simp only [nc] at *))
  all_goals first
    | omega
    | (unfold InR; omega)
    | skip
  refine LoopVC.frame [10, 11, 20, 23] (RtX M l.length (rotL l A M B)) (fun x => [(10, .i .i64 fun _ => x.U.length), (11, .i .i64 fun _ => x.V.length)]) (fun x => [(0, vecO 70 fun _ => x.P ++ x.U ++ x.V ++ x.Q)]) [] (fun x => x.U.length + x.V.length)
    ⟨l.take A, (l.drop A).take (M - A), (l.drop M).take (B - M), l.drop B, by simp; omega, by simp; omega, by simp; omega, by simp; omega, rfl⟩ rfl (fun _ => rfl) ?_ ?_ fun ⟨P, U, V, Q, hm, hU, hV, hn, hR⟩ => ?_
  · cbv
    repeat' first | (refine Stp.mk ?_; cbv) | (refine Gen.mk fun r hr => ?_; (try simp only [Dat.ok, Dat.dec, Leaf.ok, Leaf.val, Span.eta, Set.eta, Task.eta, Done.eta, job.eta, Late.eta, val_sl, val_nil] at hr); cbv) | exact trivial | rfl | refine Both.mk ?_ ?_ | (refine Imp.mk fun h => ?_; (try dsimp only at h); (try simp only [nc, Int.toNat_natCast, ne_eq, zz] at h); (try simp only [nc] at h)) | refine Ob.mk ?_ ?_ | refine Chk.mk (by kernel_rfl) ?_ | refine Eq'.mk ?_ | (refine AllN.mk fun i hi => ?_; cbv) | (refine AllC.mk fun c hc hcm => ?_; (try dsimp only at hc); cbv) | (refine AllS.mk fun r hr => ?_; (try simp only [Dat.ok, Dat.dec, Leaf.ok, Leaf.val, Span.eta, Set.eta, Task.eta, Done.eta, job.eta, Late.eta, val_sl] at hr); cbv)
    · have e : ((l.drop A).take (M - A)).length = M - A := by rw [List.length_take, List.length_drop]; omega
      show (M : Int) - (A : Nat) = (((l.drop A).take (M - A)).length : Nat)
      rw [e]; omega
    · have e : ((l.drop M).take (B - M)).length = B - M := by rw [List.length_take, List.length_drop]; omega
      show (B : Int) - (M : Nat) = (((l.drop M).take (B - M)).length : Nat)
      rw [e]; omega
  · rw [← hcut]
    cbv
    repeat' first | (refine Stp.mk ?_; cbv) | (refine Gen.mk fun r hr => ?_; (try simp only [Dat.ok, Dat.dec, Leaf.ok, Leaf.val, Span.eta, Set.eta, Task.eta, Done.eta, job.eta, Late.eta, val_sl, val_nil] at hr); cbv) | exact trivial | rfl | refine Both.mk ?_ ?_ | (refine Imp.mk fun h => ?_; (try dsimp only at h); (try simp only [nc, Int.toNat_natCast, ne_eq, zz] at h); (try simp only [nc] at h)) | refine Ob.mk ?_ ?_ | refine Chk.mk (by kernel_rfl) ?_ | refine Eq'.mk ?_ | (refine AllN.mk fun i hi => ?_; cbv) | (refine AllC.mk fun c hc hcm => ?_; (try dsimp only at hc); cbv) | (refine AllS.mk fun r hr => ?_; (try simp only [Dat.ok, Dat.dec, Leaf.ok, Leaf.val, Span.eta, Set.eta, Task.eta, Done.eta, job.eta, Late.eta, val_sl] at hr); cbv)
  cbv
  repeat' first | (show Stp _; exfalso; first | omega | (exact h ‹_›) | (exact absurd ‹_› h) | (exact Bool.false_ne_true (h.symm.trans (show _ = true by assumption)))) | (refine Stp.mk ?_; cbv) | (refine Gen.mk fun r hr => ?_; (try simp only [Dat.ok, Dat.dec, Leaf.ok, Leaf.val, Span.eta, Set.eta, Task.eta, Done.eta, job.eta, Late.eta, val_sl, val_nil] at hr); cbv) | exact trivial | rfl | refine Both.mk ?_ ?_ | (refine Imp.mk fun h => ?_; (try dsimp only at h); (try simp only [nc, Int.toNat_natCast, ne_eq, zz] at h); (try simp only [nc] at h)) | refine Ob.mk ?_ ?_ | refine Chk.mk (by kernel_rfl) ?_ | refine Eq'.mk ?_ | (refine AllN.mk fun i hi => ?_; cbv) | (refine AllC.mk fun c hc hcm => ?_; (try dsimp only at hc); cbv) | (refine AllS.mk fun r hr => ?_; (try simp only [Dat.ok, Dat.dec, Leaf.ok, Leaf.val, Span.eta, Set.eta, Task.eta, Done.eta, job.eta, Late.eta, val_sl] at hr); cbv)
  all_goals ((try dsimp only at *); (try simp only [nc, Int.toNat_natCast, ne_eq, zz] at *); (try simp only [nc] at *))
  all_goals have hlen : l.length = (P ++ U ++ V ++ Q).length := (by simp only [List.length_append]; omega)
  all_goals have hv : slV (.sl 6 (fun _ => l.length) fun i => Dat.enc fun _ => (P ++ U ++ V ++ Q).getD (i ()) Dat.d0) = P ++ U ++ V ++ Q := val_len 6 hlen
  all_goals first
    | omega
    | (unfold InR; omega)
    | exact ⟨rfl, hlen, fun i _ => Dat.hok _, by rw [hv]; exact ⟨by omega, by omega, by omega, by omega, by omega⟩⟩
    | skip
  all_goals rename (_ = slV _) => hr
  all_goals rw [hv] at hr
  all_goals subst hr
  all_goals have eU : ((M : Int) - (U.length : Nat)).toNat = P.length := (by omega)
  all_goals try (
    have hlt : V.length < U.length := by omega
    have hX : (U.take V.length).length = V.length := by rw [List.length_take]; omega
    have hs : swR_F (P ++ U ++ V ++ Q) ((M : Int) - (U.length : Nat)) (M : Nat) (V.length : Nat) = P ++ V ++ U.drop V.length ++ U.take V.length ++ Q := by
      have e := swapU_parts (P := P) (X := U.take V.length) (Y := U.drop V.length) (Z := V) (Q := Q) hX
      rw [hX] at e
      have e2 : P ++ U.take V.length ++ U.drop V.length ++ V ++ Q = P ++ U ++ V ++ Q := by
        rw [List.append_assoc P, List.take_append_drop]
      rw [e2] at e
      unfold swR_F
      rw [eU, Int.toNat_natCast, Int.toNat_natCast, ← e]
      congr 1
      rw [List.length_drop]; omega
    simp only [hs]
    refine ⟨⟨P ++ V, U.drop V.length, U.take V.length, Q, by simp; omega, by simp; omega, by rw [hX]; exact hV, by simp; omega, by
      rw [← hR]
      have := List.take_append_drop V.length U
      simp only [List.append_assoc]
      rw [← List.append_assoc (U.take V.length), this]⟩, ?_, ?_, rfl, by (try dsimp only); simp only [List.length_drop, List.length_take]; omega⟩
    · cbv
      repeat' first | (refine Stp.mk ?_; cbv) | (refine Gen.mk fun r hr => ?_; (try simp only [Dat.ok, Dat.dec, Leaf.ok, Leaf.val, Span.eta, Set.eta, Task.eta, Done.eta, job.eta, Late.eta, val_sl, val_nil] at hr); cbv) | exact trivial | rfl | refine Both.mk ?_ ?_ | (refine Imp.mk fun h => ?_; (try dsimp only at h); (try simp only [nc, Int.toNat_natCast, ne_eq, zz] at h); (try simp only [nc] at h)) | refine Ob.mk ?_ ?_ | refine Chk.mk (by kernel_rfl) ?_ | refine Eq'.mk ?_ | (refine AllN.mk fun i hi => ?_; cbv) | (refine AllC.mk fun c hc hcm => ?_; (try dsimp only at hc); cbv) | (refine AllS.mk fun r hr => ?_; (try simp only [Dat.ok, Dat.dec, Leaf.ok, Leaf.val, Span.eta, Set.eta, Task.eta, Done.eta, job.eta, Late.eta, val_sl] at hr); cbv)
      all_goals first
        | (show (U.length : Int) - (V.length : Nat) = ((U.drop V.length).length : Nat)
           rw [List.length_drop]; omega)
        | (show (V.length : Int) = ((U.take V.length).length : Nat)
           rw [hX])
        | fail
    · cbv
      repeat' first | (refine Stp.mk ?_; cbv) | (refine Gen.mk fun r hr => ?_; (try simp only [Dat.ok, Dat.dec, Leaf.ok, Leaf.val, Span.eta, Set.eta, Task.eta, Done.eta, job.eta, Late.eta, val_sl, val_nil] at hr); cbv) | exact trivial | rfl | refine Both.mk ?_ ?_ | (refine Imp.mk fun h => ?_; (try dsimp only at h); (try simp only [nc, Int.toNat_natCast, ne_eq, zz] at h); (try simp only [nc] at h)) | refine Ob.mk ?_ ?_ | refine Chk.mk (by kernel_rfl) ?_ | refine Eq'.mk ?_ | (refine AllN.mk fun i hi => ?_; cbv) | (refine AllC.mk fun c hc hcm => ?_; (try dsimp only at hc); cbv) | (refine AllS.mk fun r hr => ?_; (try simp only [Dat.ok, Dat.dec, Leaf.ok, Leaf.val, Span.eta, Set.eta, Task.eta, Done.eta, job.eta, Late.eta, val_sl] at hr); cbv)
    done)
  all_goals try (
    have hlt : U.length < V.length := by omega
    have hX : (V.drop (V.length - U.length)).length = U.length := by rw [List.length_drop]; omega
    have hs : swR_F (P ++ U ++ V ++ Q) ((M : Int) - (U.length : Nat)) ((M : Nat) + (V.length : Nat) - (U.length : Nat)) (U.length : Nat) = P ++ V.drop (V.length - U.length) ++ V.take (V.length - U.length) ++ (U ++ Q) := by
      have e := swapU_parts (P := P) (X := U) (Y := V.take (V.length - U.length)) (Z := V.drop (V.length - U.length)) (Q := Q) hX.symm
      have e2 : P ++ U ++ V.take (V.length - U.length) ++ V.drop (V.length - U.length) ++ Q = P ++ U ++ V ++ Q := by
        rw [List.append_assoc (P ++ U), List.take_append_drop]
      rw [e2] at e
      unfold swR_F
      rw [eU, Int.toNat_natCast]
      have e3 : ((M : Int) + (V.length : Nat) - (U.length : Nat)).toNat = P.length + U.length + (V.take (V.length - U.length)).length := by rw [List.length_take]; omega
      rw [e3, e]
      simp only [List.append_assoc]
    simp only [hs]
    refine ⟨⟨P, V.drop (V.length - U.length), V.take (V.length - U.length), U ++ Q, by rw [hX]; exact hm, by rw [hX]; exact hU, by simp; omega, by simp; omega, by
      rw [← hR]
      have := List.take_append_drop (V.length - U.length) V
      simp only [List.append_assoc]
      rw [← List.append_assoc (V.take _), this]⟩, ?_, ?_, rfl, by (try dsimp only); simp only [List.length_drop, List.length_take]; omega⟩
    · cbv
      repeat' first | (refine Stp.mk ?_; cbv) | (refine Gen.mk fun r hr => ?_; (try simp only [Dat.ok, Dat.dec, Leaf.ok, Leaf.val, Span.eta, Set.eta, Task.eta, Done.eta, job.eta, Late.eta, val_sl, val_nil] at hr); cbv) | exact trivial | rfl | refine Both.mk ?_ ?_ | (refine Imp.mk fun h => ?_; (try dsimp only at h); (try simp only [nc, Int.toNat_natCast, ne_eq, zz] at h); (try simp only [nc] at h)) | refine Ob.mk ?_ ?_ | refine Chk.mk (by kernel_rfl) ?_ | refine Eq'.mk ?_ | (refine AllN.mk fun i hi => ?_; cbv) | (refine AllC.mk fun c hc hcm => ?_; (try dsimp only at hc); cbv) | (refine AllS.mk fun r hr => ?_; (try simp only [Dat.ok, Dat.dec, Leaf.ok, Leaf.val, Span.eta, Set.eta, Task.eta, Done.eta, job.eta, Late.eta, val_sl] at hr); cbv)
      all_goals first
        | (show (U.length : Int) = ((V.drop (V.length - U.length)).length : Nat)
           rw [hX])
        | (show (V.length : Int) - (U.length : Nat) = ((V.take (V.length - U.length)).length : Nat)
           rw [List.length_take]; omega)
        | fail
    · cbv
      repeat' first | (refine Stp.mk ?_; cbv) | (refine Gen.mk fun r hr => ?_; (try simp only [Dat.ok, Dat.dec, Leaf.ok, Leaf.val, Span.eta, Set.eta, Task.eta, Done.eta, job.eta, Late.eta, val_sl, val_nil] at hr); cbv) | exact trivial | rfl | refine Both.mk ?_ ?_ | (refine Imp.mk fun h => ?_; (try dsimp only at h); (try simp only [nc, Int.toNat_natCast, ne_eq, zz] at h); (try simp only [nc] at h)) | refine Ob.mk ?_ ?_ | refine Chk.mk (by kernel_rfl) ?_ | refine Eq'.mk ?_ | (refine AllN.mk fun i hi => ?_; cbv) | (refine AllC.mk fun c hc hcm => ?_; (try dsimp only at hc); cbv) | (refine AllS.mk fun r hr => ?_; (try simp only [Dat.ok, Dat.dec, Leaf.ok, Leaf.val, Span.eta, Set.eta, Task.eta, Done.eta, job.eta, Late.eta, val_sl] at hr); cbv)
    done)
  all_goals have hlt : U.length = V.length := (by omega)
  all_goals have hs : swR_F (P ++ U ++ V ++ Q) ((M : Int) - (U.length : Nat)) (M : Nat) (U.length : Nat) = rotR_F l (A : Nat) (M : Nat) (B : Nat) := (by
    have e := swapU_parts (P := P) (X := U) (Y := []) (Z := V) (Q := Q) hlt
    simp only [List.append_nil, List.length_nil, Nat.add_zero] at e
    unfold swR_F rotR_F
    rw [eU, Int.toNat_natCast, Int.toNat_natCast, Int.toNat_natCast, Int.toNat_natCast, ← hR, ← e]
    congr 1
    omega)
  all_goals rw [hs]
  all_goals fail
theorem rotR_ok {A : List AV} {H : Hp} {K : Kont} (h : rotR_K A H K) : FnOk Try.prog 59 A H K := ownCon_ok (fun _ _ h => by cases h) (fun rest d _ hp => by
  have hp : (match (generalizing := false) rest with | [.i .i64 a, .i .i64 m, .i .i64 b, .fn 29 []] => rotR_P d (a ()) (m ()) (b ()) | _ => False) := hp
  split at hp
  · rename_i a m b _ _; exact rotR_vc d (a ()) (m ()) (b ()) hp
  · cases hp) h
theorem rotR_okO : DtOk Try.prog 59 (.o (ownDet job 70 rotR_S)) := ownDet_ok (fun _ _ h => by cases h) (fun rest d _ hp => by
  have hp : (match (generalizing := false) rest with | [.i .i64 a, .i .i64 m, .i .i64 b, .fn 29 []] => rotR_P d (a ()) (m ()) (b ()) | _ => False) := hp
  split at hp
  · rename_i a m b _ _; exact rotR_vc d (a ()) (m ()) (b ()) hp
  · cases hp)

end Go.Proofs.Ytcnfdohlgmipoaa
