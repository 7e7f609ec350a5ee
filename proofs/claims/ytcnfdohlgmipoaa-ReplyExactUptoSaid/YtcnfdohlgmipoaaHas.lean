/- The program's functions, walked: Has. -/
import Derived.Test.YtcnfdohlgmipoaaSpanP
import Derived.Test.YtcnfdohlgmipoaaBs
set_option linter.all false
namespace Go.Proofs.Ytcnfdohlgmipoaa
open Go Go.Abs
def placeV (l : List Span) (t : Int) : Int := bsN (fun i => decide (t < (l.getD i.toNat Dat.d0).to)) 0 l.length
def hasV (s : Set) (t : Int) : Bool × Int :=
  if checkV s = 0 then (if t < 0 ∨ 1099511627776 < t then (false, 1) else
    (decide (placeV s.spans (t.tmod s.size) < s.spans.length) && decide ((s.spans.getD (placeV s.spans (t.tmod s.size)).toNat Dat.d0).frm ≤ t.tmod s.size), 0)) else (false, checkV s)
def placeC_R (r : Th (Int)) : AV := .i .i64 fun _ => (r ())
def placeC_S (s : Set) (t : Int) : Int := placeV s.spans t
def placeC_P (s : Set) (t : Int) : Prop := s.spans.length ≤ 1000
def placeC_D : Det := fun A => match A with
  | [.agg s, .i .i64 t] => some (fun _ => Dat.ok Set s ∧ placeC_P (Dat.dec s) (t ()), placeC_R fun _ => placeC_S (Dat.dec s) (t ()))
  | _ => none
def hasC_R (r : Th (Bool × Int)) : AV := .tup [.b fun _ => (r ()).1, .i .i64 fun _ => (r ()).2]
def hasC_P (s : Set) (t : Int) : Prop := s.spans.length ≤ 9223372036854775807
def hasC_D : Det := fun A => match A with
  | [.agg s, .i .i64 t] => some (fun _ => Dat.ok Set s ∧ hasC_P (Dat.dec s) (t ()), hasC_R fun _ => hasV (Dat.dec s) (t ()))
  | _ => none
noncomputable def cP0 : FuncId → Con := fun f => match f with
  | 55 => inlCon E noCon noDraws [0, 1, 2, 4, 8] Try.f55
  | _ => fun _ _ _ => Bad 1001
theorem cP0_ok : ConOk Try.prog cP0 := fun f A H K h => by
  unfold cP0 at h
  split at h
  · exact ⟨⟨Try.f55, Try.func55, by kernel_rfl, by kernel_rfl⟩, inl_ok envOk zl noCon_ok noDraws_ok Try.func55 h⟩
  · cases h
noncomputable def cP1 : FuncId → Con := fun f => match f with
  | 54 => inlCon E cP0 noDraws [0, 1, 2, 6, 7, 8, 9, 10, 11, 17, 31] Try.f54
  | _ => fun _ _ _ => Bad 1001
theorem cP1_ok : ConOk Try.prog cP1 := fun f A H K h => by
  unfold cP1 at h
  split at h
  · exact ⟨⟨Try.f54, Try.func54, by kernel_rfl, by kernel_rfl⟩, inl_ok envOk zl cP0_ok noDraws_ok Try.func54 h⟩
  · cases h
set_option maxRecDepth 100000 in
set_option maxHeartbeats 4000000 in
theorem placeC_vc (s : Set) (t : Int) (hp : placeC_P s t) : FnOk Try.prog 45 [.agg (Dat.enc fun _ => s), .i .i64 fun _ => t] [] (outA (placeC_R fun _ => placeC_S s t) []) := by
  refine fn_ok envOk zl cP1_ok noDraws_ok (keep := [0, 1, 2, 4, 5]) Try.func45 rfl ?_
  have hp' : s.spans.length ≤ 1000 := hp
  have fin : ∀ e H kl, e = placeV s.spans t → outA (placeC_R fun _ => placeV s.spans t) [] (.i .i64 fun _ => e) H kl := by
    rintro e H kl rfl
    cbv
    repeat' first | (refine Stp.mk ?_; cbv) | (refine Gen.mk fun r hr => ?_; (try simp only [Dat.ok, Dat.dec, Leaf.ok, Leaf.val, Span.eta, Set.eta, Task.eta, Done.eta, job.eta, Late.eta, val_sl, val_nil] at hr); cbv) | exact trivial | rfl | refine Both.mk ?_ ?_ | (refine Imp.mk fun h => ?_; (try dsimp only at h); (try simp only [nc, Int.toNat_natCast, ne_eq, zz] at h); (try simp only [nc] at h)) | refine Ob.mk ?_ ?_ | refine Chk.mk (by kernel_rfl) ?_ | refine Eq'.mk ?_ | (refine AllN.mk fun i hi => ?_; cbv) | (refine AllC.mk fun c hc hcm => ?_; (try dsimp only at hc); cbv) | (refine AllS.mk fun r hr => ?_; (try simp only [Dat.ok, Dat.dec, Leaf.ok, Leaf.val, Span.eta, Set.eta, Task.eta, Done.eta, job.eta, Late.eta, val_sl] at hr); cbv)
  generalize outA (placeC_R fun _ => placeV s.spans t) [] = K at fin
  cbv
  have eW : placeV s.spans t = bsN (fun i => decide (t < (s.spans.getD i.toNat Dat.d0).to)) 0 s.spans.length := rfl
  refine LoopVC.frame [9, 10, 11, 17, 31] (BsX (fun i => decide (t < (s.spans.getD i.toNat Dat.d0).to)) s.spans.length) (fun x => [(9, .i .i64 fun _ => x.i), (10, .i .i64 fun _ => x.j)]) (fun _ => []) [] (fun x => (x.j - x.i).toNat) ⟨0, s.spans.length, Int.le_refl _, by omega, Int.le_refl _, rfl⟩ rfl (fun _ => rfl) ?_ ?_ fun ⟨i, j, h0, h1, h2, hr⟩ => ?_
  iterate 2
    · cbv
      repeat' first | (refine Stp.mk ?_; cbv) | (refine Gen.mk fun r hr => ?_; (try simp only [Dat.ok, Dat.dec, Leaf.ok, Leaf.val, Span.eta, Set.eta, Task.eta, Done.eta, job.eta, Late.eta, val_sl, val_nil] at hr); cbv) | exact trivial | rfl | refine Both.mk ?_ ?_ | (refine Imp.mk fun h => ?_; (try dsimp only at h); (try simp only [nc, Int.toNat_natCast, ne_eq, zz] at h); (try simp only [nc] at h)) | refine Ob.mk ?_ ?_ | refine Chk.mk (by kernel_rfl) ?_ | refine Eq'.mk ?_ | (refine AllN.mk fun i hi => ?_; cbv) | (refine AllC.mk fun c hc hcm => ?_; (try dsimp only at hc); cbv) | (refine AllS.mk fun r hr => ?_; (try simp only [Dat.ok, Dat.dec, Leaf.ok, Leaf.val, Span.eta, Set.eta, Task.eta, Done.eta, job.eta, Late.eta, val_sl] at hr); cbv)
  have hme := mid_eq h0 h1 (by omega)
  have hme' := hme
  cbv
  repeat' first | (refine Stp.mk ?_; cbv) | (refine Gen.mk fun r hr => ?_; (try simp only [Dat.ok, Dat.dec, Leaf.ok, Leaf.val, Span.eta, Set.eta, Task.eta, Done.eta, job.eta, Late.eta, val_sl, val_nil] at hr); cbv) | exact trivial | rfl | refine Both.mk ?_ ?_ | (refine Imp.mk fun h => ?_; (try dsimp only at h); (try simp only [nc, Int.toNat_natCast, ne_eq, zz] at h); (try simp only [nc] at h)) | refine Ob.mk ?_ ?_ | refine Chk.mk (by kernel_rfl) ?_ | refine Eq'.mk ?_ | (refine AllN.mk fun i hi => ?_; cbv) | (refine AllC.mk fun c hc hcm => ?_; (try dsimp only at hc); cbv) | (refine AllS.mk fun r hr => ?_; (try simp only [Dat.ok, Dat.dec, Leaf.ok, Leaf.val, Span.eta, Set.eta, Task.eta, Done.eta, job.eta, Late.eta, val_sl] at hr); cbv)
  all_goals ((try dsimp only at *); (try simp only [nc, Int.toNat_natCast, ne_eq, zz] at *); (try simp only [nc] at *))
  all_goals try simp only [Dat.ok, Dat.dec, Leaf.ok, Leaf.val, Span.eta, Set.eta, Task.eta, Done.eta, job.eta, Late.eta, val_sl] at *
  all_goals try rw [hme'] at *
  all_goals try have hlt : i < j := by assumption
  all_goals try rw [bsN_lt hlt] at hr
  all_goals first
    | omega
    | (unfold InR; omega)
    | (show i = placeV s.spans t
       rw [eW, hr, bsN_ge (by omega)])
    | (refine ⟨⟨(i + j) / 2 + 1, j, by omega, by omega, h2, ?_⟩, ?_, ?_, rfl, by (try dsimp only); omega⟩
       · rw [hr, if_neg (by rw [decide_eq_true_eq]; omega)]
       · cbv
         repeat' first | (refine Stp.mk ?_; cbv) | (refine Gen.mk fun r hr => ?_; (try simp only [Dat.ok, Dat.dec, Leaf.ok, Leaf.val, Span.eta, Set.eta, Task.eta, Done.eta, job.eta, Late.eta, val_sl, val_nil] at hr); cbv) | exact trivial | rfl | refine Both.mk ?_ ?_ | (refine Imp.mk fun h => ?_; (try dsimp only at h); (try simp only [nc, Int.toNat_natCast, ne_eq, zz] at h); (try simp only [nc] at h)) | refine Ob.mk ?_ ?_ | refine Chk.mk (by kernel_rfl) ?_ | refine Eq'.mk ?_ | (refine AllN.mk fun i hi => ?_; cbv) | (refine AllC.mk fun c hc hcm => ?_; (try dsimp only at hc); cbv) | (refine AllS.mk fun r hr => ?_; (try simp only [Dat.ok, Dat.dec, Leaf.ok, Leaf.val, Span.eta, Set.eta, Task.eta, Done.eta, job.eta, Late.eta, val_sl] at hr); cbv)
         all_goals (first | rfl | (dsimp only; rw [hme]))
       · cbv
         repeat' first | (refine Stp.mk ?_; cbv) | (refine Gen.mk fun r hr => ?_; (try simp only [Dat.ok, Dat.dec, Leaf.ok, Leaf.val, Span.eta, Set.eta, Task.eta, Done.eta, job.eta, Late.eta, val_sl, val_nil] at hr); cbv) | exact trivial | rfl | refine Both.mk ?_ ?_ | (refine Imp.mk fun h => ?_; (try dsimp only at h); (try simp only [nc, Int.toNat_natCast, ne_eq, zz] at h); (try simp only [nc] at h)) | refine Ob.mk ?_ ?_ | refine Chk.mk (by kernel_rfl) ?_ | refine Eq'.mk ?_ | (refine AllN.mk fun i hi => ?_; cbv) | (refine AllC.mk fun c hc hcm => ?_; (try dsimp only at hc); cbv) | (refine AllS.mk fun r hr => ?_; (try simp only [Dat.ok, Dat.dec, Leaf.ok, Leaf.val, Span.eta, Set.eta, Task.eta, Done.eta, job.eta, Late.eta, val_sl] at hr); cbv))
    | (refine ⟨⟨i, (i + j) / 2, h0, by omega, Int.le_trans (show (i + j) / 2 ≤ j by omega) h2, ?_⟩, ?_, ?_, rfl, by (try dsimp only); omega⟩
       · rw [hr, if_pos (by rw [decide_eq_true_eq]; omega)]
       · cbv
         repeat' first | (refine Stp.mk ?_; cbv) | (refine Gen.mk fun r hr => ?_; (try simp only [Dat.ok, Dat.dec, Leaf.ok, Leaf.val, Span.eta, Set.eta, Task.eta, Done.eta, job.eta, Late.eta, val_sl, val_nil] at hr); cbv) | exact trivial | rfl | refine Both.mk ?_ ?_ | (refine Imp.mk fun h => ?_; (try dsimp only at h); (try simp only [nc, Int.toNat_natCast, ne_eq, zz] at h); (try simp only [nc] at h)) | refine Ob.mk ?_ ?_ | refine Chk.mk (by kernel_rfl) ?_ | refine Eq'.mk ?_ | (refine AllN.mk fun i hi => ?_; cbv) | (refine AllC.mk fun c hc hcm => ?_; (try dsimp only at hc); cbv) | (refine AllS.mk fun r hr => ?_; (try simp only [Dat.ok, Dat.dec, Leaf.ok, Leaf.val, Span.eta, Set.eta, Task.eta, Done.eta, job.eta, Late.eta, val_sl] at hr); cbv)
         all_goals (first | rfl | (dsimp only; rw [hme]))
       · cbv
         repeat' first | (refine Stp.mk ?_; cbv) | (refine Gen.mk fun r hr => ?_; (try simp only [Dat.ok, Dat.dec, Leaf.ok, Leaf.val, Span.eta, Set.eta, Task.eta, Done.eta, job.eta, Late.eta, val_sl, val_nil] at hr); cbv) | exact trivial | rfl | refine Both.mk ?_ ?_ | (refine Imp.mk fun h => ?_; (try dsimp only at h); (try simp only [nc, Int.toNat_natCast, ne_eq, zz] at h); (try simp only [nc] at h)) | refine Ob.mk ?_ ?_ | refine Chk.mk (by kernel_rfl) ?_ | refine Eq'.mk ?_ | (refine AllN.mk fun i hi => ?_; cbv) | (refine AllC.mk fun c hc hcm => ?_; (try dsimp only at hc); cbv) | (refine AllS.mk fun r hr => ?_; (try simp only [Dat.ok, Dat.dec, Leaf.ok, Leaf.val, Span.eta, Set.eta, Task.eta, Done.eta, job.eta, Late.eta, val_sl] at hr); cbv))
    | (have hlo : t < (s.spans.getD ((i + j) / 2).toNat Dat.d0).to := (by assumption)
       refine ⟨⟨i, (i + j) / 2, h0, by omega, Int.le_trans (show (i + j) / 2 ≤ j by omega) h2, ?_⟩, ?_, ?_, rfl, by (try dsimp only); omega⟩
       · rw [hr, if_pos (by rw [decide_eq_true_eq]; assumption)]
       · cbv
         repeat' first | (refine Stp.mk ?_; cbv) | (refine Gen.mk fun r hr => ?_; (try simp only [Dat.ok, Dat.dec, Leaf.ok, Leaf.val, Span.eta, Set.eta, Task.eta, Done.eta, job.eta, Late.eta, val_sl, val_nil] at hr); cbv) | exact trivial | rfl | refine Both.mk ?_ ?_ | (refine Imp.mk fun h => ?_; (try dsimp only at h); (try simp only [nc, Int.toNat_natCast, ne_eq, zz] at h); (try simp only [nc] at h)) | refine Ob.mk ?_ ?_ | refine Chk.mk (by kernel_rfl) ?_ | refine Eq'.mk ?_ | (refine AllN.mk fun i hi => ?_; cbv) | (refine AllC.mk fun c hc hcm => ?_; (try dsimp only at hc); cbv) | (refine AllS.mk fun r hr => ?_; (try simp only [Dat.ok, Dat.dec, Leaf.ok, Leaf.val, Span.eta, Set.eta, Task.eta, Done.eta, job.eta, Late.eta, val_sl] at hr); cbv)
         all_goals (first | rfl | (dsimp only; rw [hme]))
       · cbv
         repeat' first | (refine Stp.mk ?_; cbv) | (refine Gen.mk fun r hr => ?_; (try simp only [Dat.ok, Dat.dec, Leaf.ok, Leaf.val, Span.eta, Set.eta, Task.eta, Done.eta, job.eta, Late.eta, val_sl, val_nil] at hr); cbv) | exact trivial | rfl | refine Both.mk ?_ ?_ | (refine Imp.mk fun h => ?_; (try dsimp only at h); (try simp only [nc, Int.toNat_natCast, ne_eq, zz] at h); (try simp only [nc] at h)) | refine Ob.mk ?_ ?_ | refine Chk.mk (by kernel_rfl) ?_ | refine Eq'.mk ?_ | (refine AllN.mk fun i hi => ?_; cbv) | (refine AllC.mk fun c hc hcm => ?_; (try dsimp only at hc); cbv) | (refine AllS.mk fun r hr => ?_; (try simp only [Dat.ok, Dat.dec, Leaf.ok, Leaf.val, Span.eta, Set.eta, Task.eta, Done.eta, job.eta, Late.eta, val_sl] at hr); cbv))
theorem placeC_ok : PcOk Try.prog 45 (detPC placeC_D) := det_okA fun A p r h hp0 => by
  unfold placeC_D at h
  split at h
  · rename_i s t
    cases h
    obtain ⟨g0, hp⟩ := hp0
    exact ⟨rfl, FnOk.pre (A' := [.agg (Dat.enc fun _ => (Dat.dec s : Set)), .i .i64 fun _ => t ()]) (placeC_vc (Dat.dec s) (t ()) hp) (.mk (Dat.hle _ g0) (.mk (.mk (.mk rfl) (.mk rfl)) (trivial)))⟩
  · cases h
theorem placeV_bd (l : List Span) (t : Int) : 0 ≤ placeV l t ∧ placeV l t ≤ l.length := bsN_bd _ 0 l.length (Nat.le_refl _) (by omega)
noncomputable def cH : FuncId → Con := fun f => match f with
  | 24 => pureCon (detPC check_D)
  | 44 => inlCon E noCon noDraws [0, 2] Try.f44
  | 45 => pureCon (detPC placeC_D)
  | _ => fun _ _ _ => Bad 1001
theorem cH_ok : ConOk Try.prog cH := fun f A H K h => by
  unfold cH at h
  split at h
  · exact ⟨⟨Try.f24, Try.func24, by kernel_rfl, by kernel_rfl⟩, pureCon_ok check_ok h⟩
  · exact ⟨⟨Try.f44, Try.func44, by kernel_rfl, by kernel_rfl⟩, inl_ok envOk zl noCon_ok noDraws_ok Try.func44 h⟩
  · exact ⟨⟨Try.f45, Try.func45, by kernel_rfl, by kernel_rfl⟩, pureCon_ok placeC_ok h⟩
  · cases h
set_option maxRecDepth 100000 in
set_option maxHeartbeats 4000000 in
theorem hasC_vc (s : Set) (t : Int) (hp : hasC_P s t) : FnOk Try.prog 32 [.agg (Dat.enc fun _ => s), .i .i64 fun _ => t] [] (outA (hasC_R fun _ => hasV s t) []) := by
  refine fn_ok envOk zl cH_ok noDraws_ok (keep := [0, 1, 2, 4, 5, 6, 7, 11, 15]) Try.func32 rfl ?_
  have hp' : s.spans.length ≤ 9223372036854775807 := hp
  have fin : ∀ a' e H kl, (a', e) = hasV s t → outA (hasC_R fun _ => hasV s t) [] (.tup [.b fun _ => a', .i .i64 fun _ => e]) H kl := by
    intro a' e H kl h
    cbv
    repeat' first | (refine Stp.mk ?_; cbv) | (refine Gen.mk fun r hr => ?_; (try simp only [Dat.ok, Dat.dec, Leaf.ok, Leaf.val, Span.eta, Set.eta, Task.eta, Done.eta, job.eta, Late.eta, val_sl, val_nil] at hr); cbv) | exact trivial | rfl | refine Both.mk ?_ ?_ | (refine Imp.mk fun h => ?_; (try dsimp only at h); (try simp only [nc, Int.toNat_natCast, ne_eq, zz] at h); (try simp only [nc] at h)) | refine Ob.mk ?_ ?_ | refine Chk.mk (by kernel_rfl) ?_ | refine Eq'.mk ?_ | (refine AllN.mk fun i hi => ?_; cbv) | (refine AllC.mk fun c hc hcm => ?_; (try dsimp only at hc); cbv) | (refine AllS.mk fun r hr => ?_; (try simp only [Dat.ok, Dat.dec, Leaf.ok, Leaf.val, Span.eta, Set.eta, Task.eta, Done.eta, job.eta, Late.eta, val_sl] at hr); cbv)
    all_goals rw [← h]
  have finc : ∀ e H kl, (false, e) = hasV s t → outA (hasC_R fun _ => hasV s t) [] (.tup [.bc false, .i .i64 fun _ => e]) H kl := by
    intro e H kl h
    cbv
    repeat' first | (refine Stp.mk ?_; cbv) | (refine Gen.mk fun r hr => ?_; (try simp only [Dat.ok, Dat.dec, Leaf.ok, Leaf.val, Span.eta, Set.eta, Task.eta, Done.eta, job.eta, Late.eta, val_sl, val_nil] at hr); cbv) | exact trivial | rfl | refine Both.mk ?_ ?_ | (refine Imp.mk fun h => ?_; (try dsimp only at h); (try simp only [nc, Int.toNat_natCast, ne_eq, zz] at h); (try simp only [nc] at h)) | refine Ob.mk ?_ ?_ | refine Chk.mk (by kernel_rfl) ?_ | refine Eq'.mk ?_ | (refine AllN.mk fun i hi => ?_; cbv) | (refine AllC.mk fun c hc hcm => ?_; (try dsimp only at hc); cbv) | (refine AllS.mk fun r hr => ?_; (try simp only [Dat.ok, Dat.dec, Leaf.ok, Leaf.val, Span.eta, Set.eta, Task.eta, Done.eta, job.eta, Late.eta, val_sl] at hr); cbv)
    all_goals rw [← h]
  generalize outA (hasC_R fun _ => hasV s t) [] = K at fin finc
  cbv
  repeat' first | (refine Stp.mk ?_; cbv) | (refine Gen.mk fun r hr => ?_; (try simp only [Dat.ok, Dat.dec, Leaf.ok, Leaf.val, Span.eta, Set.eta, Task.eta, Done.eta, job.eta, Late.eta, val_sl, val_nil] at hr); cbv) | exact trivial | rfl | refine Both.mk ?_ ?_ | (refine Imp.mk fun h => ?_; (try dsimp only at h); (try simp only [nc, Int.toNat_natCast, ne_eq, zz] at h); (try simp only [nc] at h)) | refine Ob.mk ?_ ?_ | refine Chk.mk (by kernel_rfl) ?_ | refine Eq'.mk ?_ | (refine AllN.mk fun i hi => ?_; cbv) | (refine AllC.mk fun c hc hcm => ?_; (try dsimp only at hc); cbv) | (refine AllS.mk fun r hr => ?_; (try simp only [Dat.ok, Dat.dec, Leaf.ok, Leaf.val, Span.eta, Set.eta, Task.eta, Done.eta, job.eta, Late.eta, val_sl] at hr); cbv)
  all_goals ((try dsimp only at *); (try simp only [nc, Int.toNat_natCast, ne_eq, zz] at *); (try simp only [nc] at *))
  all_goals try simp only [Dat.ok, Dat.dec, Leaf.ok, Leaf.val, Span.eta, Set.eta, Task.eta, Done.eta, job.eta, Late.eta, val_sl] at *
  all_goals try have hR := check_iff.1 (show checkV s = 0 by assumption)
  all_goals try have hl3 := hR.len
  all_goals try have hs1 := hR.s1
  all_goals try have hpp := placeV_bd s.spans (t.tmod s.size)
  all_goals first
    | exact ⟨⟨trivial, rfl, fun i _ => Dat.hok _⟩, hp'⟩
    | exact ⟨⟨trivial, rfl, fun i _ => Dat.hok _⟩, show s.spans.length ≤ 1000 by omega⟩
    | omega
    | exact ⟨hpp.1, by assumption⟩
    | (refine finc _ _ _ ?_
       unfold hasV
       first
         | (rw [if_neg (by assumption)]; done)
         | (rw [if_pos (by assumption), if_pos (by omega)]; done)
         | (have hq : (s.spans.length : Int) ≤ placeV s.spans (t.tmod s.size) := (by assumption)
            rw [if_pos (by assumption), if_neg (by omega), decide_eq_false (show ¬ placeV s.spans (t.tmod s.size) < s.spans.length by omega)]; rfl))
    | (refine fin _ _ _ _ ?_
       have hq : placeV s.spans (t.tmod s.size) < (s.spans.length : Int) := (by assumption)
       unfold hasV
       rw [if_pos (by assumption), if_neg (by omega), decide_eq_true hq]; rfl)
    | fail
theorem hasC_ok : PcOk Try.prog 32 (detPC hasC_D) := det_okA fun A p r h hp0 => by
  unfold hasC_D at h
  split at h
  · rename_i s t
    cases h
    obtain ⟨g0, hp⟩ := hp0
    exact ⟨rfl, FnOk.pre (A' := [.agg (Dat.enc fun _ => (Dat.dec s : Set)), .i .i64 fun _ => t ()]) (hasC_vc (Dat.dec s) (t ()) hp) (.mk (Dat.hle _ g0) (.mk (.mk (.mk rfl) (.mk rfl)) (trivial)))⟩
  · cases h

end Go.Proofs.Ytcnfdohlgmipoaa
