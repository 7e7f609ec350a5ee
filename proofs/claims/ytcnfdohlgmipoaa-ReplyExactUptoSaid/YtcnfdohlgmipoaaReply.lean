/- The functions of package reply, walked. -/
import Derived.Test.YtcnfdohlgmipoaaTChk
import Derived.Test.YtcnfdohlgmipoaaWait
import Derived.Test.YtcnfdohlgmipoaaQuoB
import Derived.Test.YtcnfdohlgmipoaaBs
set_option linter.all false
namespace Go.Proofs.Ytcnfdohlgmipoaa
open Go Go.Abs

def needS (n : Int) : List Task → Int
  | [] => 0
  | t :: r => (n + t.every - 1).tdiv t.every * t.long + needS n r
def needV (l : List Task) (p n : Int) : Int := (l.getD p.toNat Dat.d0).long + needS n (l.take p.toNat)
def repF (l : List Task) (p : Int) (s : Set) : Nat → Int → Int × Int
  | 0, _ => (0, 11)
  | f + 1, n => if n ≤ (l.getD p.toNat Dat.d0).due then
      (if needV l p n ≤ (boundV s n false).1 then (n, 0) else if 1000000 < needV l p n then (0, 11)
       else if (waitV s (needV l p n)).2 = 0 then repF l p s f (if n + 1 < (waitV s (needV l p n)).1 then (waitV s (needV l p n)).1 else n + 1) else (0, 11)) else (0, 11)
def repN (l : List Task) (p : Int) (s : Set) (n : Int) : Int × Int := repF l p s ((l.getD p.toNat Dat.d0).due + 1 - n).toNat n
def repV (l : List Task) (p : Int) (s : Set) : Int × Int := repN l p s 1
theorem repF_fuel {l : List Task} {p : Int} {s : Set} : ∀ {f g : Nat} {n : Int}, ((l.getD p.toNat Dat.d0).due + 1 - n).toNat ≤ f → ((l.getD p.toNat Dat.d0).due + 1 - n).toNat ≤ g → repF l p s f n = repF l p s g n
  | 0, 0, _, _, _ => rfl
  | 0, g + 1, n, h, _ => by rw [repF, repF, if_neg (by omega)]
  | f + 1, 0, n, _, h => by rw [repF, repF, if_neg (by omega)]
  | f + 1, g + 1, n, h1, h2 => by
    rw [repF, repF]
    split
    · split
      · rfl
      · split
        · rfl
        · split
          · split
            · exact repF_fuel (by omega) (by omega)
            · exact repF_fuel (by omega) (by omega)
          · rfl
    · rfl
theorem repN_gt {l : List Task} {p : Int} {s : Set} {n : Int} (h : ¬ n ≤ (l.getD p.toNat Dat.d0).due) : repN l p s n = (0, 11) := by
  unfold repN
  rw [show ((l.getD p.toNat Dat.d0).due + 1 - n).toNat = 0 by omega, repF]
theorem repN_le {l : List Task} {p : Int} {s : Set} {n : Int} (h : n ≤ (l.getD p.toNat Dat.d0).due) : repN l p s n =
    if needV l p n ≤ (boundV s n false).1 then (n, 0) else if 1000000 < needV l p n then (0, 11)
       else if (waitV s (needV l p n)).2 = 0 then repN l p s (if n + 1 < (waitV s (needV l p n)).1 then (waitV s (needV l p n)).1 else n + 1) else (0, 11) := by
  obtain ⟨f, hf⟩ : ∃ f, ((l.getD p.toNat Dat.d0).due + 1 - n).toNat = f + 1 := ⟨((l.getD p.toNat Dat.d0).due - n).toNat, by omega⟩
  unfold repN
  rw [hf, repF, if_pos h]
  split
  · rfl
  · split
    · rfl
    · split
      · split
        · exact repF_fuel (by omega) (Nat.le_refl _)
        · exact repF_fuel (by omega) (Nat.le_refl _)
      · rfl
theorem take_getD {l : List Task} {i j : Nat} (h : j < i) : (l.take i).getD j Dat.d0 = l.getD j Dat.d0 := by
  rw [List.getD_eq_getElem?_getD, List.getD_eq_getElem?_getD, List.getElem?_take, if_pos h]
theorem need_drop {l : List Task} {i k : Nat} (n : Int) (hk : k < i) (hi : i ≤ l.length) : needS n ((l.take i).drop k) = (n + (l.getD k Dat.d0).every - 1).tdiv (l.getD k Dat.d0).every * (l.getD k Dat.d0).long + needS n ((l.take i).drop (k + 1)) := by
  rw [drop_cons Dat.d0 (by rw [List.length_take]; omega), needS, take_getD hk]
structure RpX (l : List Task) (p : Int) (s : Set) where
  n : Int
  n1 : 1 ≤ n
  he : repV l p s = repN l p s n
structure RnX2 (l : List Task) (p n : Int) where
  k : Nat
  s : Int
  hk : k ≤ p.toNat
  s0 : 1 ≤ s
  s1 : s ≤ 10000 + k * 10995116277760000
  he : needV l p n = s + needS n ((l.take p.toNat).drop k)
def rep_R (r : Th (Int × Int)) : AV := .tup [.i .i64 fun _ => (r ()).1, .i .i64 fun _ => (r ()).2]
def rep_P (l : (List Task)) (p : Int) (s : Set) : Prop := l.length ≤ 16 ∧ l.all okT = true ∧ 0 ≤ p ∧ p < l.length ∧ checkV s = 0
def rep_D : Det := fun A => match A with
  | [l, .i .i64 p, .agg s] => some (fun _ => Leaf.ok (List Task) l ∧ Dat.ok Set s ∧ rep_P (Leaf.val l) (p ()) (Dat.dec s), rep_R fun _ => repV (Leaf.val l) (p ()) (Dat.dec s))
  | _ => none
noncomputable def cRp : FuncId → Con := fun f => match f with
  | 36 => pureCon (detPC leastP_D)
  | 37 => pureCon (detPC wait_D)
  | _ => fun _ _ _ => Bad 1001
theorem cRp_ok : ConOk Try.prog cRp := fun f A H K h => by
  unfold cRp at h
  split at h
  · exact ⟨⟨Try.f36, Try.func36, by kernel_rfl, by kernel_rfl⟩, pureCon_ok leastP_ok h⟩
  · exact ⟨⟨Try.f37, Try.func37, by kernel_rfl, by kernel_rfl⟩, pureCon_ok wait_ok h⟩
  · cases h
def dRp : FuncId → Option Dt := fun f => match f with
  | _ => none
theorem dRp_ok : DetOk Try.prog dRp := fun f d h => by
  unfold dRp at h
  split at h
  · cases h
set_option maxRecDepth 100000 in
set_option maxHeartbeats 4000000 in
theorem rep_vc (l : (List Task)) (p : Int) (s : Set) (hp : rep_P l p s) : FnOk Try.prog 19 [Leaf.av fun _ => l, .i .i64 fun _ => p, .agg (Dat.enc fun _ => s)] [] (outA (rep_R fun _ => repV l p s) []) := by
  refine fn_ok envOk zl cRp_ok (draws_ok envOk zl dRp_ok mixed) (keep := [0, 1, 2, 5, 6, 7, 8, 9, 11, 12, 14, 15, 22, 30, 31, 32, 33, 58, 61, 69]) Try.func19 rfl ?_
  obtain ⟨r1, r2, r3, r4, r5⟩ : l.length ≤ 16 ∧ l.all okT = true ∧ 0 ≤ p ∧ p < l.length ∧ checkV s = 0 := hp
  have hR := check_iff.1 r5
  have hsl : s.spans.length ≤ 9223372036854775807 := by have := hR.len; omega
  have hpo := okT_iff.1 (tk_get (show p.toNat < l.length by omega) r2)
  have fin : ∀ (a e : Int) H kl, repV l p s = (a, e) → outA (rep_R fun _ => repV l p s) [] (.tup [.i .i64 fun _ => a, .i .i64 fun _ => e]) H kl := fun a e H kl h => by
    rw [h]
    cbv
    repeat' first | (refine Stp.mk ?_; cbv) | (refine Gen.mk fun r hr => ?_; (try simp only [Dat.ok, Dat.dec, Leaf.ok, Leaf.val, Span.eta, Set.eta, Task.eta, Done.eta, job.eta, Late.eta, val_sl, val_nil] at hr); cbv) | exact trivial | rfl | refine Both.mk ?_ ?_ | (refine Imp.mk fun h => ?_; (try dsimp only at h); (try simp only [nc, Int.toNat_natCast, ne_eq, zz] at h); (try simp only [nc] at h)) | refine Ob.mk ?_ ?_ | refine Chk.mk (by kernel_rfl) ?_ | refine Eq'.mk ?_ | (refine AllN.mk fun i hi => ?_; cbv) | (refine AllC.mk fun c hc hcm => ?_; (try dsimp only at hc); cbv) | (refine AllS.mk fun r hr => ?_; (try simp only [Dat.ok, Dat.dec, Leaf.ok, Leaf.val, Span.eta, Set.eta, Task.eta, Done.eta, job.eta, Late.eta, val_sl] at hr); cbv)
  generalize outA (rep_R fun _ => repV l p s) [] = K at fin ⊢
  cbv
  refine LoopVC.frame [6, 7, 8, 9, 11, 12, 14, 15, 22, 30, 31, 32, 33, 58, 61, 69] (RpX l p s) (fun x => [(8, .i .i64 fun _ => x.n)]) (fun _ => []) [] (fun x => ((l.getD p.toNat Dat.d0).due + 1 - x.n).toNat) ⟨1, Int.le_refl _, rfl⟩ rfl (fun _ => rfl) ?_ ?_ fun ⟨n, n1, he⟩ => ?_
  iterate 2
    · cbv
      repeat' first | (refine Stp.mk ?_; cbv) | (refine Gen.mk fun r hr => ?_; (try simp only [Dat.ok, Dat.dec, Leaf.ok, Leaf.val, Span.eta, Set.eta, Task.eta, Done.eta, job.eta, Late.eta, val_sl, val_nil] at hr); cbv) | exact trivial | rfl | refine Both.mk ?_ ?_ | (refine Imp.mk fun h => ?_; (try dsimp only at h); (try simp only [nc, Int.toNat_natCast, ne_eq, zz] at h); (try simp only [nc] at h)) | refine Ob.mk ?_ ?_ | refine Chk.mk (by kernel_rfl) ?_ | refine Eq'.mk ?_ | (refine AllN.mk fun i hi => ?_; cbv) | (refine AllC.mk fun c hc hcm => ?_; (try dsimp only at hc); cbv) | (refine AllS.mk fun r hr => ?_; (try simp only [Dat.ok, Dat.dec, Leaf.ok, Leaf.val, Span.eta, Set.eta, Task.eta, Done.eta, job.eta, Late.eta, val_sl] at hr); cbv)
  · cbv
    repeat' first | (show Stp _; exfalso; first | omega | (exact h ‹_›) | (exact absurd ‹_› h) | (exact Bool.false_ne_true (h.symm.trans (show _ = true by assumption)))) | (refine Stp.mk ?_; cbv) | (refine Gen.mk fun r hr => ?_; (try simp only [Dat.ok, Dat.dec, Leaf.ok, Leaf.val, Span.eta, Set.eta, Task.eta, Done.eta, job.eta, Late.eta, val_sl, val_nil] at hr); cbv) | exact trivial | rfl | refine Both.mk ?_ ?_ | (refine Imp.mk fun h => ?_; (try dsimp only at h); (try simp only [nc, Int.toNat_natCast, ne_eq, zz] at h); (try simp only [nc] at h)) | refine Ob.mk ?_ ?_ | refine Chk.mk (by kernel_rfl) ?_ | refine Eq'.mk ?_ | (refine AllN.mk fun i hi => ?_; cbv) | (refine AllC.mk fun c hc hcm => ?_; (try dsimp only at hc); cbv) | (refine AllS.mk fun r hr => ?_; (try simp only [Dat.ok, Dat.dec, Leaf.ok, Leaf.val, Span.eta, Set.eta, Task.eta, Done.eta, job.eta, Late.eta, val_sl] at hr); cbv)
    all_goals ((try dsimp only at *); (try simp only [nc, Int.toNat_natCast, ne_eq, zz] at *); (try simp only [nc] at *))
    all_goals try rw [nc] at *
    all_goals first
      | omega
      | exact ⟨by omega, by omega⟩
      | (refine fin _ _ _ _ ?_
         rw [he, repN_gt (by omega)])
      | skip
    refine LoopVC.frame [9, 11, 32, 33] (RnX2 l p n) (fun x => [(32, .i .i64 fun _ => x.k), (9, .i .i64 fun _ => x.s)]) (fun _ => []) [] (fun x => p.toNat - x.k) ⟨0, (l.getD p.toNat Dat.d0).long, Nat.zero_le _, by omega, by omega, rfl⟩ rfl (fun _ => rfl) ?_ ?_ fun ⟨k, m, hk, s0, s1, hn⟩ => ?_
    iterate 2
      · cbv
        repeat' first | (refine Stp.mk ?_; cbv) | (refine Gen.mk fun r hr => ?_; (try simp only [Dat.ok, Dat.dec, Leaf.ok, Leaf.val, Span.eta, Set.eta, Task.eta, Done.eta, job.eta, Late.eta, val_sl, val_nil] at hr); cbv) | exact trivial | rfl | refine Both.mk ?_ ?_ | (refine Imp.mk fun h => ?_; (try dsimp only at h); (try simp only [nc, Int.toNat_natCast, ne_eq, zz] at h); (try simp only [nc] at h)) | refine Ob.mk ?_ ?_ | refine Chk.mk (by kernel_rfl) ?_ | refine Eq'.mk ?_ | (refine AllN.mk fun i hi => ?_; cbv) | (refine AllC.mk fun c hc hcm => ?_; (try dsimp only at hc); cbv) | (refine AllS.mk fun r hr => ?_; (try simp only [Dat.ok, Dat.dec, Leaf.ok, Leaf.val, Span.eta, Set.eta, Task.eta, Done.eta, job.eta, Late.eta, val_sl] at hr); cbv)
    · cbv
      repeat' first | (show Stp _; exfalso; first | omega | (exact h ‹_›) | (exact absurd ‹_› h) | (exact Bool.false_ne_true (h.symm.trans (show _ = true by assumption)))) | (refine Stp.mk ?_; cbv) | (refine Gen.mk fun r hr => ?_; (try simp only [Dat.ok, Dat.dec, Leaf.ok, Leaf.val, Span.eta, Set.eta, Task.eta, Done.eta, job.eta, Late.eta, val_sl, val_nil] at hr); cbv) | exact trivial | rfl | refine Both.mk ?_ ?_ | (refine Imp.mk fun h => ?_; (try dsimp only at h); (try simp only [nc, Int.toNat_natCast, ne_eq, zz] at h); (try simp only [nc] at h)) | refine Ob.mk ?_ ?_ | refine Chk.mk (by kernel_rfl) ?_ | refine Eq'.mk ?_ | (refine AllN.mk fun i hi => ?_; cbv) | (refine AllC.mk fun c hc hcm => ?_; (try dsimp only at hc); cbv) | (refine AllS.mk fun r hr => ?_; (try simp only [Dat.ok, Dat.dec, Leaf.ok, Leaf.val, Span.eta, Set.eta, Task.eta, Done.eta, job.eta, Late.eta, val_sl] at hr); cbv)
      all_goals ((try dsimp only at *); (try simp only [nc, Int.toNat_natCast, ne_eq, zz] at *); (try simp only [nc] at *))
      all_goals try simp only [Dat.dec, Leaf.val, Span.eta, Set.eta, Task.eta, Done.eta, job.eta, Late.eta, val_sl] at *
      all_goals try simp only [leastP_S] at *
      all_goals try rw [nc] at *
      all_goals try simp only [show Int.toNat 0 = 0 from rfl, Nat.add_zero, Int.sub_zero] at *
      all_goals try (have ho := okT_iff.1 (tk_get (show k < l.length by omega) r2); have hq := quo_bd (n := n + (l.getD k Dat.d0).every - 1) (e := (l.getD k Dat.d0).every) (g := (l.getD k Dat.d0).long) (by omega) (by omega) (by omega) (by omega) (by omega))
      all_goals first
        | omega
        | exact ⟨by omega, by omega⟩
        | (unfold InR; omega)
        | (refine ⟨by omega, ?_⟩; unfold InR; omega)
        | exact ⟨⟨trivial, rfl, fun i _ => Dat.hok _⟩, hsl⟩
        | (have hk2 : k < p.toNat := by omega
           refine ⟨⟨k + 1, m + (n + (l.getD k Dat.d0).every - 1).tdiv (l.getD k Dat.d0).every * (l.getD k Dat.d0).long, by omega, by omega, by omega, by rw [hn, need_drop _ hk2 (by omega)]; omega⟩, ?_, ?_, rfl, by (try dsimp only); omega⟩
           · cbv
             repeat' first | (refine Stp.mk ?_; cbv) | (refine Gen.mk fun r hr => ?_; (try simp only [Dat.ok, Dat.dec, Leaf.ok, Leaf.val, Span.eta, Set.eta, Task.eta, Done.eta, job.eta, Late.eta, val_sl, val_nil] at hr); cbv) | exact trivial | rfl | refine Both.mk ?_ ?_ | (refine Imp.mk fun h => ?_; (try dsimp only at h); (try simp only [nc, Int.toNat_natCast, ne_eq, zz] at h); (try simp only [nc] at h)) | refine Ob.mk ?_ ?_ | refine Chk.mk (by kernel_rfl) ?_ | refine Eq'.mk ?_ | (refine AllN.mk fun i hi => ?_; cbv) | (refine AllC.mk fun c hc hcm => ?_; (try dsimp only at hc); cbv) | (refine AllS.mk fun r hr => ?_; (try simp only [Dat.ok, Dat.dec, Leaf.ok, Leaf.val, Span.eta, Set.eta, Task.eta, Done.eta, job.eta, Late.eta, val_sl] at hr); cbv)
           · cbv
             repeat' first | (refine Stp.mk ?_; cbv) | (refine Gen.mk fun r hr => ?_; (try simp only [Dat.ok, Dat.dec, Leaf.ok, Leaf.val, Span.eta, Set.eta, Task.eta, Done.eta, job.eta, Late.eta, val_sl, val_nil] at hr); cbv) | exact trivial | rfl | refine Both.mk ?_ ?_ | (refine Imp.mk fun h => ?_; (try dsimp only at h); (try simp only [nc, Int.toNat_natCast, ne_eq, zz] at h); (try simp only [nc] at h)) | refine Ob.mk ?_ ?_ | refine Chk.mk (by kernel_rfl) ?_ | refine Eq'.mk ?_ | (refine AllN.mk fun i hi => ?_; cbv) | (refine AllC.mk fun c hc hcm => ?_; (try dsimp only at hc); cbv) | (refine AllS.mk fun r hr => ?_; (try simp only [Dat.ok, Dat.dec, Leaf.ok, Leaf.val, Span.eta, Set.eta, Task.eta, Done.eta, job.eta, Late.eta, val_sl] at hr); cbv))
        | skip
      all_goals have hN : needV l p n = m := (by rw [hn, List.drop_eq_nil_of_le (by rw [List.length_take]; omega), needS, Int.add_zero])
      all_goals have hL := repN_le (l := l) (p := p) (s := s) (n := n) (by omega)
      all_goals rw [hN] at hL
      all_goals first
        | (refine fin _ _ _ _ ?_
           first
             | (rw [he, hL, if_pos (by assumption)]; done)
             | (rw [he, hL, if_neg (by omega), if_pos (by omega)]; done)
             | (rw [he, hL, if_neg (by omega), if_neg (by omega), if_neg (by assumption)]; done))
        | skip
      have hL2 : repN l p s n = repN l p s (if n + 1 < (waitV s m).1 then (waitV s m).1 else n + 1) := (by rw [hL, if_neg (by omega), if_neg (by omega), if_pos (by assumption)])
      refine ⟨⟨if n + 1 < (waitV s m).1 then (waitV s m).1 else n + 1, by split <;> omega, by rw [he, hL2]⟩, ?_, ?_, rfl, by dsimp only; split <;> omega⟩
      iterate 2
        · cbv
          repeat' first | (refine Stp.mk ?_; cbv) | (refine Gen.mk fun r hr => ?_; (try simp only [Dat.ok, Dat.dec, Leaf.ok, Leaf.val, Span.eta, Set.eta, Task.eta, Done.eta, job.eta, Late.eta, val_sl, val_nil] at hr); cbv) | exact trivial | rfl | refine Both.mk ?_ ?_ | (refine Imp.mk fun h => ?_; (try dsimp only at h); (try simp only [nc, Int.toNat_natCast, ne_eq, zz] at h); (try simp only [nc] at h)) | refine Ob.mk ?_ ?_ | refine Chk.mk (by kernel_rfl) ?_ | refine Eq'.mk ?_ | (refine AllN.mk fun i hi => ?_; cbv) | (refine AllC.mk fun c hc hcm => ?_; (try dsimp only at hc); cbv) | (refine AllS.mk fun r hr => ?_; (try simp only [Dat.ok, Dat.dec, Leaf.ok, Leaf.val, Span.eta, Set.eta, Task.eta, Done.eta, job.eta, Late.eta, val_sl] at hr); cbv)
theorem rep_ok : PcOk Try.prog 19 (detPC rep_D) := det_okA fun A p r h hp0 => by
  unfold rep_D at h
  split at h
  · rename_i l p s
    cases h
    obtain ⟨g0, g1, hp⟩ := hp0
    exact ⟨rfl, FnOk.pre (A' := [Leaf.av fun _ => (Leaf.val l : (List Task)), .i .i64 fun _ => p (), .agg (Dat.enc fun _ => (Dat.dec s : Set))]) (rep_vc (Leaf.val l) (p ()) (Dat.dec s) hp) (.mk (Leaf.hle _ g0) (.mk (.mk (.mk rfl) (.mk rfl)) (.mk (Dat.hle _ g1) (trivial))))⟩
  · cases h
def bothS (l : List Task) (s : Set) : Int := if tchkV l = 0 then checkV s else tchkV l
def bothR_R (r : Th (Int)) : AV := .i .i64 fun _ => (r ())
def bothR_P (l : (List Task)) (s : Set) : Prop := l.length ≤ 9223372036854775807 ∧ s.spans.length ≤ 9223372036854775807
def bothR_D : Det := fun A => match A with
  | [l, .agg s] => some (fun _ => Leaf.ok (List Task) l ∧ Dat.ok Set s ∧ bothR_P (Leaf.val l) (Dat.dec s), bothR_R fun _ => bothS (Leaf.val l) (Dat.dec s))
  | _ => none
noncomputable def cBr : FuncId → Con := fun f => match f with
  | 22 => pureCon (detPC tchk_D)
  | 24 => pureCon (detPC check_D)
  | _ => fun _ _ _ => Bad 1001
theorem cBr_ok : ConOk Try.prog cBr := fun f A H K h => by
  unfold cBr at h
  split at h
  · exact ⟨⟨Try.f22, Try.func22, by kernel_rfl, by kernel_rfl⟩, pureCon_ok tchk_ok h⟩
  · exact ⟨⟨Try.f24, Try.func24, by kernel_rfl, by kernel_rfl⟩, pureCon_ok check_ok h⟩
  · cases h
set_option maxRecDepth 100000 in
set_option maxHeartbeats 4000000 in
theorem bothR_vc (l : (List Task)) (s : Set) (hp : bothR_P l s) : FnOk Try.prog 18 [Leaf.av fun _ => l, .agg (Dat.enc fun _ => s)] [] (outA (bothR_R fun _ => bothS l s) []) := by
  refine fn_ok envOk zl cBr_ok noDraws_ok (keep := [0, 1, 3, 4, 5, 9]) Try.func18 rfl ?_
  obtain ⟨p1, p2⟩ : l.length ≤ 9223372036854775807 ∧ s.spans.length ≤ 9223372036854775807 := hp
  have fin : ∀ (a : Int) H kl, bothS l s = a → outA (bothR_R fun _ => bothS l s) [] (.i .i64 fun _ => a) H kl := fun a H kl h => by
    rw [← h]
    cbv
    repeat' first | (refine Stp.mk ?_; cbv) | (refine Gen.mk fun r hr => ?_; (try simp only [Dat.ok, Dat.dec, Leaf.ok, Leaf.val, Span.eta, Set.eta, Task.eta, Done.eta, job.eta, Late.eta, val_sl, val_nil] at hr); cbv) | exact trivial | rfl | refine Both.mk ?_ ?_ | (refine Imp.mk fun h => ?_; (try dsimp only at h); (try simp only [nc, Int.toNat_natCast, ne_eq, zz] at h); (try simp only [nc] at h)) | refine Ob.mk ?_ ?_ | refine Chk.mk (by kernel_rfl) ?_ | refine Eq'.mk ?_ | (refine AllN.mk fun i hi => ?_; cbv) | (refine AllC.mk fun c hc hcm => ?_; (try dsimp only at hc); cbv) | (refine AllS.mk fun r hr => ?_; (try simp only [Dat.ok, Dat.dec, Leaf.ok, Leaf.val, Span.eta, Set.eta, Task.eta, Done.eta, job.eta, Late.eta, val_sl] at hr); cbv)
  generalize outA (bothR_R fun _ => bothS l s) [] = K at fin ⊢
  cbv
  repeat' first | (show Stp _; exfalso; first | omega | (exact h ‹_›) | (exact absurd ‹_› h) | (exact Bool.false_ne_true (h.symm.trans (show _ = true by assumption)))) | (refine Stp.mk ?_; cbv) | (refine Gen.mk fun r hr => ?_; (try simp only [Dat.ok, Dat.dec, Leaf.ok, Leaf.val, Span.eta, Set.eta, Task.eta, Done.eta, job.eta, Late.eta, val_sl, val_nil] at hr); cbv) | exact trivial | rfl | refine Both.mk ?_ ?_ | (refine Imp.mk fun h => ?_; (try dsimp only at h); (try simp only [nc, Int.toNat_natCast, ne_eq, zz] at h); (try simp only [nc] at h)) | refine Ob.mk ?_ ?_ | refine Chk.mk (by kernel_rfl) ?_ | refine Eq'.mk ?_ | (refine AllN.mk fun i hi => ?_; cbv) | (refine AllC.mk fun c hc hcm => ?_; (try dsimp only at hc); cbv) | (refine AllS.mk fun r hr => ?_; (try simp only [Dat.ok, Dat.dec, Leaf.ok, Leaf.val, Span.eta, Set.eta, Task.eta, Done.eta, job.eta, Late.eta, val_sl] at hr); cbv)
  all_goals ((try dsimp only at *); (try simp only [nc, Int.toNat_natCast, ne_eq, zz] at *); (try simp only [nc] at *))
  all_goals try simp only [Dat.dec, Leaf.val, Span.eta, Set.eta, Task.eta, Done.eta, job.eta, Late.eta, val_sl] at *
  all_goals first
    | exact ⟨⟨rfl, fun i _ => Dat.hok _⟩, show _ ≤ _ by omega⟩
    | exact ⟨⟨trivial, rfl, fun i _ => Dat.hok _⟩, show _ ≤ _ by omega⟩
    | (refine fin _ _ _ ?_
       first
         | (rw [bothS, if_pos (by assumption)]; done)
         | (rw [bothS, if_neg (by assumption)]; done))
    | fail
theorem bothR_ok : PcOk Try.prog 18 (detPC bothR_D) := det_okA fun A p r h hp0 => by
  unfold bothR_D at h
  split at h
  · rename_i l s
    cases h
    obtain ⟨g0, g1, hp⟩ := hp0
    exact ⟨rfl, FnOk.pre (A' := [Leaf.av fun _ => (Leaf.val l : (List Task)), .agg (Dat.enc fun _ => (Dat.dec s : Set))]) (bothR_vc (Leaf.val l) (Dat.dec s) hp) (.mk (Leaf.hle _ g0) (.mk (Dat.hle _ g1) (trivial)))⟩
  · cases h
theorem both_iff {l : List Task} {s : Set} : bothS l s = 0 ↔ tchkV l = 0 ∧ checkV s = 0 := by
  unfold bothS
  by_cases h : tchkV l = 0
  · rw [if_pos h]; exact ⟨fun q => ⟨h, q⟩, fun q => q.2⟩
  · rw [if_neg h]; exact ⟨fun q => absurd q h, fun q => absurd q.1 h⟩
def replyV (l : List Task) (p : Int) (s : Set) : Int × Int := if bothS l s = 0 then (if p < 0 ∨ l.length ≤ p then (0, 7) else repV l p s) else (0, bothS l s)
def reply_R (r : Th (Int × Int)) : AV := .tup [.i .i64 fun _ => (r ()).1, .i .i64 fun _ => (r ()).2]
def reply_P (l : (List Task)) (p : Int) (s : Set) : Prop := l.length ≤ 9223372036854775807 ∧ s.spans.length ≤ 9223372036854775807
def reply_D : Det := fun A => match A with
  | [l, .i .i64 p, .agg s] => some (fun _ => Leaf.ok (List Task) l ∧ Dat.ok Set s ∧ reply_P (Leaf.val l) (p ()) (Dat.dec s), reply_R fun _ => replyV (Leaf.val l) (p ()) (Dat.dec s))
  | _ => none
noncomputable def cRy : FuncId → Con := fun f => match f with
  | 18 => pureCon (detPC bothR_D)
  | 19 => pureCon (detPC rep_D)
  | _ => fun _ _ _ => Bad 1001
theorem cRy_ok : ConOk Try.prog cRy := fun f A H K h => by
  unfold cRy at h
  split at h
  · exact ⟨⟨Try.f18, Try.func18, by kernel_rfl, by kernel_rfl⟩, pureCon_ok bothR_ok h⟩
  · exact ⟨⟨Try.f19, Try.func19, by kernel_rfl, by kernel_rfl⟩, pureCon_ok rep_ok h⟩
  · cases h
set_option maxRecDepth 100000 in
set_option maxHeartbeats 4000000 in
theorem reply_vc (l : (List Task)) (p : Int) (s : Set) (hp : reply_P l p s) : FnOk Try.prog 7 [Leaf.av fun _ => l, .i .i64 fun _ => p, .agg (Dat.enc fun _ => s)] [] (outA (reply_R fun _ => replyV l p s) []) := by
  refine fn_ok envOk zl cRy_ok noDraws_ok (keep := [0, 1, 2, 5, 6, 7, 8, 13, 22]) Try.func7 rfl ?_
  obtain ⟨p1, p2⟩ : l.length ≤ 9223372036854775807 ∧ s.spans.length ≤ 9223372036854775807 := hp
  have fin : ∀ (a e : Int) H kl, replyV l p s = (a, e) → outA (reply_R fun _ => replyV l p s) [] (.tup [.i .i64 fun _ => a, .i .i64 fun _ => e]) H kl := fun a e H kl h => by
    rw [h]
    cbv
    repeat' first | (refine Stp.mk ?_; cbv) | (refine Gen.mk fun r hr => ?_; (try simp only [Dat.ok, Dat.dec, Leaf.ok, Leaf.val, Span.eta, Set.eta, Task.eta, Done.eta, job.eta, Late.eta, val_sl, val_nil] at hr); cbv) | exact trivial | rfl | refine Both.mk ?_ ?_ | (refine Imp.mk fun h => ?_; (try dsimp only at h); (try simp only [nc, Int.toNat_natCast, ne_eq, zz] at h); (try simp only [nc] at h)) | refine Ob.mk ?_ ?_ | refine Chk.mk (by kernel_rfl) ?_ | refine Eq'.mk ?_ | (refine AllN.mk fun i hi => ?_; cbv) | (refine AllC.mk fun c hc hcm => ?_; (try dsimp only at hc); cbv) | (refine AllS.mk fun r hr => ?_; (try simp only [Dat.ok, Dat.dec, Leaf.ok, Leaf.val, Span.eta, Set.eta, Task.eta, Done.eta, job.eta, Late.eta, val_sl] at hr); cbv)
  generalize outA (reply_R fun _ => replyV l p s) [] = K at fin ⊢
  cbv
  repeat' first | (show Stp _; exfalso; first | omega | (exact h ‹_›) | (exact absurd ‹_› h) | (exact Bool.false_ne_true (h.symm.trans (show _ = true by assumption)))) | (refine Stp.mk ?_; cbv) | (refine Gen.mk fun r hr => ?_; (try simp only [Dat.ok, Dat.dec, Leaf.ok, Leaf.val, Span.eta, Set.eta, Task.eta, Done.eta, job.eta, Late.eta, val_sl, val_nil] at hr); cbv) | exact trivial | rfl | refine Both.mk ?_ ?_ | (refine Imp.mk fun h => ?_; (try dsimp only at h); (try simp only [nc, Int.toNat_natCast, ne_eq, zz] at h); (try simp only [nc] at h)) | refine Ob.mk ?_ ?_ | refine Chk.mk (by kernel_rfl) ?_ | refine Eq'.mk ?_ | (refine AllN.mk fun i hi => ?_; cbv) | (refine AllC.mk fun c hc hcm => ?_; (try dsimp only at hc); cbv) | (refine AllS.mk fun r hr => ?_; (try simp only [Dat.ok, Dat.dec, Leaf.ok, Leaf.val, Span.eta, Set.eta, Task.eta, Done.eta, job.eta, Late.eta, val_sl] at hr); cbv)
  all_goals ((try dsimp only at *); (try simp only [nc, Int.toNat_natCast, ne_eq, zz] at *); (try simp only [nc] at *))
  all_goals try simp only [Dat.dec, Leaf.val, Span.eta, Set.eta, Task.eta, Done.eta, job.eta, Late.eta, val_sl] at *
  all_goals first
    | exact ⟨⟨rfl, fun i _ => Dat.hok _⟩, ⟨trivial, rfl, fun i _ => Dat.hok _⟩, show _ ≤ _ by omega, show _ ≤ _ by omega⟩
    | (have hb := both_iff.1 (by assumption : bothS l s = 0)
       have hc := tchk_iff.1 hb.1
       exact ⟨⟨rfl, fun i _ => Dat.hok _⟩, ⟨trivial, rfl, fun i _ => Dat.hok _⟩, hc.1, hc.2, by omega, by omega, hb.2⟩)
    | (refine fin _ _ _ _ ?_
       first
         | (rw [replyV, if_neg (by assumption)]; done)
         | (rw [replyV, if_pos (by assumption), if_pos (by omega)]; done)
         | (rw [replyV, if_pos (by assumption), if_neg (by omega)]; done))
    | fail
theorem reply_ok : PcOk Try.prog 7 (detPC reply_D) := det_okA fun A p r h hp0 => by
  unfold reply_D at h
  split at h
  · rename_i l p s
    cases h
    obtain ⟨g0, g1, hp⟩ := hp0
    exact ⟨rfl, FnOk.pre (A' := [Leaf.av fun _ => (Leaf.val l : (List Task)), .i .i64 fun _ => p (), .agg (Dat.enc fun _ => (Dat.dec s : Set))]) (reply_vc (Leaf.val l) (p ()) (Dat.dec s) hp) (.mk (Leaf.hle _ g0) (.mk (.mk (.mk rfl) (.mk rfl)) (.mk (Dat.hle _ g1) (trivial))))⟩
  · cases h

end Go.Proofs.Ytcnfdohlgmipoaa
