/- By the order of tasks no task is hindered by those behind it; for all inputs. -/
import Derived.Test.YthgmnejlhljlaaaPlayL
import Derived.Test.YthgmnejlhljlaaaPlayA
import Derived.Test.YthgmnejlhljlaaaLPlOn
set_option linter.all false
namespace Go.Proofs.Ythgmnejlhljlaaa
open Go Go.Abs

def clDn_R (r : Th ((List Done))) : AV := .own 0 fun _ => (r ()).length
def clDn_H (r : Th ((List Done))) : Hp := [vecO 34 fun _ => (r ())]
def clDn_P (l : (List Done)) : Prop := l.length ≤ 1099511627776
def clDn_C : PC := fun A K => match A with
  | [l] => Ob (fun _ => Leaf.ok (List Done) l ∧ clDn_P (Leaf.val l)) (Gen (α := (List Done)) (fun _ => (Leaf.val l)) fun r => K (clDn_R fun _ => r) (clDn_H fun _ => r))
  | _ => Bad 1002
set_option maxRecDepth 100000 in
set_option maxHeartbeats 4000000 in
theorem clDn_vc (l : (List Done)) (hp : clDn_P l) : FnOk Try.prog 14 [Leaf.av fun _ => l] [] (outA (clDn_R fun _ => l) (clDn_H fun _ => l)) := by
  refine fn_ok envOk zl noCon_ok noDraws_ok (keep := [0, 2, 4]) Try.func14 rfl ?_
  have hp' : l.length ≤ 1099511627776 := hp
  cbv
  repeat' first | (refine Stp.mk ?_; cbv) | (refine Gen.mk fun r hr => ?_; (try simp only [Dat.ok, Dat.dec, Leaf.ok, Leaf.val, Span.eta, Set.eta, Task.eta, Done.eta, job.eta, Late.eta, val_sl, val_nil] at hr); cbv) | exact trivial | rfl | refine Both.mk ?_ ?_ | (refine Imp.mk fun h => ?_; (try dsimp only at h); (try simp only [nc, Int.toNat_natCast, Bool.not_eq_true', Bool.not_eq_false', decide_eq_true_eq, decide_eq_false_iff_not, beq_iff_eq, beq_eq_false_iff_ne, ba_inj, bne_iff_ne, ne_eq, Bool.and_eq_true, Bool.or_eq_true, Bool.and_eq_false_iff, Bool.or_eq_false_iff, Int.not_le, Int.not_lt, Nat.not_le, Nat.not_lt] at h); (try simp only [nc] at h)) | refine Ob.mk ?_ ?_ | refine Chk.mk (by kernel_rfl) ?_ | refine Eq'.mk ?_ | (refine AllN.mk fun i hi => ?_; cbv) | (refine AllC.mk fun c hc hcm => ?_; (try dsimp only at hc); cbv) | (refine AllS.mk fun r hr => ?_; (try simp only [Dat.ok, Dat.dec, Leaf.ok, Leaf.val, Span.eta, Set.eta, Task.eta, Done.eta, job.eta, Late.eta, val_sl] at hr); cbv)
  all_goals ((try dsimp only at *); (try simp only [nc, Int.toNat_natCast, Bool.not_eq_true', Bool.not_eq_false', decide_eq_true_eq, decide_eq_false_iff_not, beq_iff_eq, beq_eq_false_iff_ne, ba_inj, bne_iff_ne, ne_eq, Bool.and_eq_true, Bool.or_eq_true, Bool.and_eq_false_iff, Bool.or_eq_false_iff, Int.not_le, Int.not_lt, Nat.not_le, Nat.not_lt] at *); (try simp only [nc] at *))
  all_goals first
    | omega
    | (exact ⟨Nat.le_refl _, trivial, by omega, by omega⟩)
    | (simp only [Nat.zero_add, Nat.sub_zero, Nat.not_lt_zero, decide_false, cond_false]; done)
    | (simp_all; done)
    | fail
theorem clDn_ok : PcOk Try.prog 14 (clDn_C) := fun A K h => by
  unfold clDn_C at h
  split at h
  · rename_i l
    cases h with
    | mk h1 h2 =>
      obtain ⟨g0, hp⟩ := h1
      refine FnOk.pre ?_ (A' := [Leaf.av fun _ => (Leaf.val l : (List Done))]) (.mk (Leaf.hle _ g0) (trivial))
      exact FnOk.out (K := fun r H _ => K r H) (clDn_vc (Leaf.val l) hp) rfl h2.out
  · cases h
def playN_N : DetN := fun A => match A with
  | [l, .agg s, first, .i .i64 policy, .i .i64 until_] => some (fun _ => Leaf.ok (List Task) l ∧ Dat.ok Set s ∧ Leaf.ok (List Int) first ∧ playC_P (Leaf.val l) (Dat.dec s) (Leaf.val first) (policy ()) (until_ ()), playC_R fun _ => playJ (Leaf.val l) (Dat.dec s) (Leaf.val first) (policy ()) (until_ ()), vecO 34 fun _ => (playJ (Leaf.val l) (Dat.dec s) (Leaf.val first) (policy ()) (until_ ()) : (List Done) × Int × Int).1)
  | _ => none
theorem playN_okN : PcOk Try.prog 9 (detNPC playN_N) := det_okN fun A p r o h hp0 => by
  unfold playN_N at h
  split at h
  · rename_i l s first policy until_
    cases h
    obtain ⟨g0, g1, g2, hp⟩ := hp0
    exact FnOk.pre (A' := [Leaf.av fun _ => (Leaf.val l : (List Task)), .agg (Dat.enc fun _ => (Dat.dec s : Set)), Leaf.av fun _ => (Leaf.val first : (List Int)), .i .i64 fun _ => policy (), .i .i64 fun _ => until_ ()]) (FnOk.out (playC_vc (Leaf.val l) (Dat.dec s) (Leaf.val first) (policy ()) (until_ ()) hp) rfl ⟨rfl, rfl⟩) (.mk (Leaf.hle _ g0) (.mk (Dat.hle _ g1) (.mk (Leaf.hle _ g2) (.mk (.mk (.mk rfl) (.mk rfl)) (.mk (.mk (.mk rfl) (.mk rfl)) (trivial))))))
  · cases h
noncomputable def cPA0 : FuncId → Con := fun f => match f with
  | 15 => inlCon E noCon noDraws [0, 1, 2, 3] Try.f15
  | _ => fun _ _ _ => Bad 1001
theorem cPA0_ok : ConOk Try.prog cPA0 := fun f A H K h => by
  unfold cPA0 at h
  split at h
  · exact ⟨⟨Try.f15, Try.func15, by kernel_rfl, by kernel_rfl⟩, inl_ok envOk zl noCon_ok noDraws_ok Try.func15 h⟩
  · cases h
noncomputable def cPA1 : FuncId → Con := fun f => match f with
  | 33 => inlCon E cPA0 noDraws [0, 1, 4, 5, 7, 8, 9, 16] Try.f33
  | 15 => inlCon E noCon noDraws [0, 1, 2, 3] Try.f15
  | _ => fun _ _ _ => Bad 1001
theorem cPA1_ok : ConOk Try.prog cPA1 := fun f A H K h => by
  unfold cPA1 at h
  split at h
  · exact ⟨⟨Try.f33, Try.func33, by kernel_rfl, by kernel_rfl⟩, inl_ok envOk zl cPA0_ok noDraws_ok Try.func33 h⟩
  · exact ⟨⟨Try.f15, Try.func15, by kernel_rfl, by kernel_rfl⟩, inl_ok envOk zl noCon_ok noDraws_ok Try.func15 h⟩
  · cases h
noncomputable def cPA : FuncId → Con := fun f => match f with
  | 9 => pureCon playC_C
  | 10 => pureCon (detPC plLives_D)
  | 11 => pureCon (detPC eqDn_D)
  | 14 => pureCon clDn_C
  | 13 => inlCon E cPA1 noDraws [0, 1, 4, 5, 6, 7, 12, 19, 29] Try.f13
  | _ => fun _ _ _ => Bad 1001
theorem cPA_ok : ConOk Try.prog cPA := fun f A H K h => by
  unfold cPA at h
  split at h
  · exact ⟨⟨Try.f9, Try.func9, by kernel_rfl, by kernel_rfl⟩, pureCon_ok playC_ok h⟩
  · exact ⟨⟨Try.f10, Try.func10, by kernel_rfl, by kernel_rfl⟩, pureCon_ok plLives_ok h⟩
  · exact ⟨⟨Try.f11, Try.func11, by kernel_rfl, by kernel_rfl⟩, pureCon_ok eqDn_ok h⟩
  · exact ⟨⟨Try.f14, Try.func14, by kernel_rfl, by kernel_rfl⟩, pureCon_ok clDn_ok h⟩
  · exact ⟨⟨Try.f13, Try.func13, by kernel_rfl, by kernel_rfl⟩, inl_ok envOk zl cPA1_ok noDraws_ok Try.func13 h⟩
  · cases h
def dPA : FuncId → Option Dt := fun f => match f with
  | 9 => some (.n playN_N)
  | _ => none
theorem dPA_ok : DetOk Try.prog dPA := fun f d h => by
  unfold dPA at h
  split at h
  · cases h; exact ⟨⟨Try.f9, Try.func9, by kernel_rfl, by kernel_rfl⟩, playN_okN⟩
  · cases h
structure IfX (r : List Done) (k : Int) where
  m : Nat
  hm : m ≤ r.length
  ha : ∀ i, i < m → (r.getD i Dat.d0).task < k
structure DfX (r : List Done) (k : Int) where
  i : Nat
  j : Nat
  d : List Done
  hj : j ≤ r.length
  hi : i < j
  hl : d.length = r.length
  hs : ∀ m, j ≤ m → m < r.length → d.getD m Dat.d0 = r.getD m Dat.d0
  ht : d.take i = (r.take j).filter fun z => decide (z.task < k)
theorem flt_all {r : List Done} {k : Int} {m : Nat} (hm : m ≤ r.length) (ha : ∀ i, i < m → (r.getD i Dat.d0).task < k) : (r.take m).filter (fun z => decide (z.task < k)) = r.take m := by
  rw [List.filter_eq_self]
  intro x hx
  obtain ⟨i, hi, e⟩ := List.mem_iff_getElem.1 hx
  have hi2 : i < m := by simp at hi; omega
  have := ha i hi2
  have e2 : r.getD i Dat.d0 = x := by rw [← e]; simp [List.getD_eq_getElem?_getD, show i < r.length by omega]
  rw [e2] at this
  simpa using this
theorem set_take {d : List Done} {i : Nat} {x : Done} (h : i < d.length) : (d.set i x).take (i + 1) = d.take i ++ [x] := by
  rw [List.take_succ_eq_append_getElem (by simpa using h), List.getElem_set_self, List.take_set_of_le (Nat.le_refl _)]
set_option maxRecDepth 100000 in
set_option maxHeartbeats 4000000 in
theorem playahead_vc (l : (List Task)) (s : Set) (first : (List Int)) (u : Int) (k : Int) (fit_l : Siz.fit l) (fit_s : Siz.fit s) (fit_first : Siz.fit first) (fit_u : Siz.fit u) (fit_k : Siz.fit k) (hB : Siz.bulk l + Siz.bulk s + Siz.bulk first + Siz.bulk u + Siz.bulk k ≤ 1048576) : FnOk Try.prog 5 [Leaf.av fun _ => l, .agg (Dat.enc fun _ => s), Leaf.av fun _ => first, .i .i64 fun _ => u, .i .i64 fun _ => k] [] (outA (.bc true) []) := by
  refine fn_ok envOk zl cPA_ok (draws_ok envOk zl dPA_ok mixed) (keep := [0, 1, 2, 3, 4, 6, 9, 10, 11, 13, 14, 16, 41]) Try.func5 rfl ?_
  have fin := @fin_b
  have finc := @fin_t
  have hpre : l.length ≤ 9223372036854775807 ∧ s.spans.length ≤ 9223372036854775807 ∧ first.length ≤ 9223372036854775807 := by
    have h1 := bulk_len (α := Task) Task.one_le l
    have h2 := bulk_len Span.one_le s.spans
    have h3 := bulk_len (α := Int) (fun _ => Nat.le_refl _) first
    simp only [Siz.bulk] at hB h1 h2 h3
    omega
  generalize outA (.bc true) [] = K at fin finc
  cbv
  repeat' first | (show Stp _; exfalso; first | omega | (exact h ‹_›) | (exact absurd ‹_› h) | (exact Bool.false_ne_true (h.symm.trans (show _ = true by assumption)))) | (refine Stp.mk ?_; cbv) | (refine Gen.mk fun r hr => ?_; (try simp only [Dat.ok, Dat.dec, Leaf.ok, Leaf.val, Span.eta, Set.eta, Task.eta, Done.eta, job.eta, Late.eta, val_sl, val_nil] at hr); cbv) | exact trivial | rfl | refine Both.mk ?_ ?_ | (refine Imp.mk fun h => ?_; (try dsimp only at h); (try simp only [nc, Int.toNat_natCast, Bool.not_eq_true', Bool.not_eq_false', decide_eq_true_eq, decide_eq_false_iff_not, beq_iff_eq, beq_eq_false_iff_ne, ba_inj, bne_iff_ne, ne_eq, Bool.and_eq_true, Bool.or_eq_true, Bool.and_eq_false_iff, Bool.or_eq_false_iff, Int.not_le, Int.not_lt, Nat.not_le, Nat.not_lt] at h); (try simp only [nc] at h)) | refine Ob.mk ?_ ?_ | refine Chk.mk (by kernel_rfl) ?_ | refine Eq'.mk ?_ | (refine AllN.mk fun i hi => ?_; cbv) | (refine AllC.mk fun c hc hcm => ?_; (try dsimp only at hc); cbv) | (refine AllS.mk fun r hr => ?_; (try simp only [Dat.ok, Dat.dec, Leaf.ok, Leaf.val, Span.eta, Set.eta, Task.eta, Done.eta, job.eta, Late.eta, val_sl] at hr); cbv)
  all_goals ((try dsimp only at *); (try simp only [nc, Int.toNat_natCast, Bool.not_eq_true', Bool.not_eq_false', decide_eq_true_eq, decide_eq_false_iff_not, beq_iff_eq, beq_eq_false_iff_ne, ba_inj, bne_iff_ne, ne_eq, Bool.and_eq_true, Bool.or_eq_true, Bool.and_eq_false_iff, Bool.or_eq_false_iff, Int.not_le, Int.not_lt, Nat.not_le, Nat.not_lt] at *); (try simp only [nc] at *))
  all_goals try simp only [Dat.dec, Leaf.val, Span.eta, Set.eta, Task.eta, Done.eta, job.eta, Late.eta, val_sl] at *
  all_goals try (first
    | exact finc
    | exact Nat.le_refl _
    | omega
    | exact ⟨by omega, by omega⟩
    | exact ⟨by omega, by omega, by omega⟩
    | exact ⟨⟨rfl, fun i _ => Dat.hok _⟩, ⟨trivial, rfl, fun i _ => Dat.hok _⟩, ⟨rfl, fun i _ => Dat.hok _⟩, hpre⟩)
  all_goals repeat (rename (_ = playJ _ _ _ _ _) => hq3; have hq4 := hq3.symm; clear hq3; subst hq4)
  all_goals have hE : (playJ l s first 2 u).2.2 = 0 := by assumption
  all_goals have hfl : first.length = l.length := by
              obtain ⟨_, _, a3, _⟩ := playJ_ok hE
              exact (firsts_iff.1 a3).1
  all_goals try omega
  all_goals try (exact ⟨by omega, by omega, by omega⟩)
  all_goals have v1 : (slV (.sl 3 (fun _ => (k - 0).toNat) fun i => Dat.enc fun _ => l.getD (i () + Int.toNat 0) Dat.d0) : List Task) = l.take k.toNat := val_takeI l 3 k (by omega) (by omega)
  all_goals have v2 : (slV (.sl 1 (fun _ => (k - 0).toNat) fun i => Dat.enc fun _ => first.getD (i () + Int.toNat 0) Dat.d0) : List Int) = first.take k.toNat := val_takeI first 1 k (by omega) (by omega)
  all_goals try simp only [v1, v2]
  all_goals have hlen : (playJ l s first 2 u).1.length ≤ 20000 := by
              obtain ⟨_, _, _, _, a5, _, e1⟩ := playJ_ok hE
              rw [e1]
              dsimp only
              have := runQ_len (fx := decide ((2 : Int) = 2)) (s := s) (n := u.toNat) (t := 0) (x := ⟨sortS (jobsL u 0 l first), [], [], 0⟩)
              exact Nat.le_trans this (by show 0 + u.toNat ≤ 20000; omega)
  · exact ⟨⟨rfl, fun i _ => Dat.hok _⟩, ⟨trivial, rfl, fun i _ => Dat.hok _⟩, ⟨rfl, fun i _ => Dat.hok _⟩, by simp; omega, hpre.2.1, by simp; omega⟩
  · exact ⟨⟨rfl, fun i _ => Dat.hok _⟩, show _ ≤ _ by omega⟩
  have hA := play_ahead (n := k.toNat) hE (by omega)
  have hkk : ((k.toNat : Nat) : Int) = k := by omega
  rw [hkk] at hA
  subst hr
  revert hA hlen
  generalize (playJ l s first 2 u).1 = r
  generalize playJ (l.take k.toNat) s (first.take k.toNat) 2 u = y
  intro hlen hA
  refine LoopVC.frame [4, 5, 8, 9, 16] (IfX r k) (fun x => [(8, .i .i64 fun _ => x.m)]) (fun _ => []) [] (fun x => r.length - x.m) ⟨0, Nat.zero_le _, fun i hi => absurd hi (Nat.not_lt_zero _)⟩ rfl (fun _ => rfl) ?_ ?_ fun ⟨m, hm, ha⟩ => ?_
  · cbv
    repeat' first | (refine Stp.mk ?_; cbv) | (refine Gen.mk fun r hr => ?_; (try simp only [Dat.ok, Dat.dec, Leaf.ok, Leaf.val, Span.eta, Set.eta, Task.eta, Done.eta, job.eta, Late.eta, val_sl, val_nil] at hr); cbv) | exact trivial | rfl | refine Both.mk ?_ ?_ | (refine Imp.mk fun h => ?_; (try dsimp only at h); (try simp only [nc, Int.toNat_natCast, Bool.not_eq_true', Bool.not_eq_false', decide_eq_true_eq, decide_eq_false_iff_not, beq_iff_eq, beq_eq_false_iff_ne, ba_inj, bne_iff_ne, ne_eq, Bool.and_eq_true, Bool.or_eq_true, Bool.and_eq_false_iff, Bool.or_eq_false_iff, Int.not_le, Int.not_lt, Nat.not_le, Nat.not_lt] at h); (try simp only [nc] at h)) | refine Ob.mk ?_ ?_ | refine Chk.mk (by kernel_rfl) ?_ | refine Eq'.mk ?_ | (refine AllN.mk fun i hi => ?_; cbv) | (refine AllC.mk fun c hc hcm => ?_; (try dsimp only at hc); cbv) | (refine AllS.mk fun r hr => ?_; (try simp only [Dat.ok, Dat.dec, Leaf.ok, Leaf.val, Span.eta, Set.eta, Task.eta, Done.eta, job.eta, Late.eta, val_sl] at hr); cbv)
  · cbv
    repeat' first | (refine Stp.mk ?_; cbv) | (refine Gen.mk fun r hr => ?_; (try simp only [Dat.ok, Dat.dec, Leaf.ok, Leaf.val, Span.eta, Set.eta, Task.eta, Done.eta, job.eta, Late.eta, val_sl, val_nil] at hr); cbv) | exact trivial | rfl | refine Both.mk ?_ ?_ | (refine Imp.mk fun h => ?_; (try dsimp only at h); (try simp only [nc, Int.toNat_natCast, Bool.not_eq_true', Bool.not_eq_false', decide_eq_true_eq, decide_eq_false_iff_not, beq_iff_eq, beq_eq_false_iff_ne, ba_inj, bne_iff_ne, ne_eq, Bool.and_eq_true, Bool.or_eq_true, Bool.and_eq_false_iff, Bool.or_eq_false_iff, Int.not_le, Int.not_lt, Nat.not_le, Nat.not_lt] at h); (try simp only [nc] at h)) | refine Ob.mk ?_ ?_ | refine Chk.mk (by kernel_rfl) ?_ | refine Eq'.mk ?_ | (refine AllN.mk fun i hi => ?_; cbv) | (refine AllC.mk fun c hc hcm => ?_; (try dsimp only at hc); cbv) | (refine AllS.mk fun r hr => ?_; (try simp only [Dat.ok, Dat.dec, Leaf.ok, Leaf.val, Span.eta, Set.eta, Task.eta, Done.eta, job.eta, Late.eta, val_sl] at hr); cbv)
  cbv
  repeat' first | (show Stp _; exfalso; first | omega | (exact h ‹_›) | (exact absurd ‹_› h) | (exact Bool.false_ne_true (h.symm.trans (show _ = true by assumption)))) | (refine Stp.mk ?_; cbv) | (refine Gen.mk fun r hr => ?_; (try simp only [Dat.ok, Dat.dec, Leaf.ok, Leaf.val, Span.eta, Set.eta, Task.eta, Done.eta, job.eta, Late.eta, val_sl, val_nil] at hr); cbv) | exact trivial | rfl | refine Both.mk ?_ ?_ | (refine Imp.mk fun h => ?_; (try dsimp only at h); (try simp only [nc, Int.toNat_natCast, Bool.not_eq_true', Bool.not_eq_false', decide_eq_true_eq, decide_eq_false_iff_not, beq_iff_eq, beq_eq_false_iff_ne, ba_inj, bne_iff_ne, ne_eq, Bool.and_eq_true, Bool.or_eq_true, Bool.and_eq_false_iff, Bool.or_eq_false_iff, Int.not_le, Int.not_lt, Nat.not_le, Nat.not_lt] at h); (try simp only [nc] at h)) | refine Ob.mk ?_ ?_ | refine Chk.mk (by kernel_rfl) ?_ | refine Eq'.mk ?_ | (refine AllN.mk fun i hi => ?_; cbv) | (refine AllC.mk fun c hc hcm => ?_; (try dsimp only at hc); cbv) | (refine AllS.mk fun r hr => ?_; (try simp only [Dat.ok, Dat.dec, Leaf.ok, Leaf.val, Span.eta, Set.eta, Task.eta, Done.eta, job.eta, Late.eta, val_sl] at hr); cbv)
  all_goals ((try dsimp only at *); (try simp only [nc, Int.toNat_natCast, Bool.not_eq_true', Bool.not_eq_false', decide_eq_true_eq, decide_eq_false_iff_not, beq_iff_eq, beq_eq_false_iff_ne, ba_inj, bne_iff_ne, ne_eq, Bool.and_eq_true, Bool.or_eq_true, Bool.and_eq_false_iff, Bool.or_eq_false_iff, Int.not_le, Int.not_lt, Nat.not_le, Nat.not_lt] at *); (try simp only [nc] at *))
  all_goals try rw [nc] at *
  all_goals try simp only [Dat.dec, Leaf.val, Span.eta, Set.eta, Task.eta, Done.eta, job.eta, Late.eta, val_sl] at *
  all_goals try (first
    | omega
    | (unfold InR; omega)
    | exact ⟨by omega, by omega⟩
    | exact Nat.le_refl _
    | (exfalso; exact absurd trivial (by assumption))
    | exact ⟨⟨rfl, fun i _ => Dat.hok _⟩, ⟨rfl, fun i _ => Dat.hok _⟩, show _ ≤ _ by omega⟩)
  · refine LoopVC.frame [5, 6, 7, 19, 29] (DfX r k) (fun x => [(5, .i .i64 fun _ => x.i), (6, .i .i64 fun _ => x.j)]) (fun x => [(4, vecO 34 fun _ => x.d)]) [] (fun x => r.length - x.j)
      ⟨m, m + 1, r, by omega, by omega, rfl, fun _ _ _ => rfl, ?_⟩ rfl (fun _ => rfl) ?_ ?_ fun ⟨i, j, d, hj, hi, hl, hs, ht⟩ => ?_
    · have hm2 : m < r.length := by omega
      rw [take_snoc Dat.d0 hm2, List.filter_append, flt_all hm ha, List.filter_cons, if_neg (by simpa using ‹k ≤ (r.getD m Dat.d0).task›)]
      simp
    · cbv
      repeat' first | (refine Stp.mk ?_; cbv) | (refine Gen.mk fun r hr => ?_; (try simp only [Dat.ok, Dat.dec, Leaf.ok, Leaf.val, Span.eta, Set.eta, Task.eta, Done.eta, job.eta, Late.eta, val_sl, val_nil] at hr); cbv) | exact trivial | rfl | refine Both.mk ?_ ?_ | (refine Imp.mk fun h => ?_; (try dsimp only at h); (try simp only [nc, Int.toNat_natCast, Bool.not_eq_true', Bool.not_eq_false', decide_eq_true_eq, decide_eq_false_iff_not, beq_iff_eq, beq_eq_false_iff_ne, ba_inj, bne_iff_ne, ne_eq, Bool.and_eq_true, Bool.or_eq_true, Bool.and_eq_false_iff, Bool.or_eq_false_iff, Int.not_le, Int.not_lt, Nat.not_le, Nat.not_lt] at h); (try simp only [nc] at h)) | refine Ob.mk ?_ ?_ | refine Chk.mk (by kernel_rfl) ?_ | refine Eq'.mk ?_ | (refine AllN.mk fun i hi => ?_; cbv) | (refine AllC.mk fun c hc hcm => ?_; (try dsimp only at hc); cbv) | (refine AllS.mk fun r hr => ?_; (try simp only [Dat.ok, Dat.dec, Leaf.ok, Leaf.val, Span.eta, Set.eta, Task.eta, Done.eta, job.eta, Late.eta, val_sl] at hr); cbv)
    · cbv
      repeat' first | (refine Stp.mk ?_; cbv) | (refine Gen.mk fun r hr => ?_; (try simp only [Dat.ok, Dat.dec, Leaf.ok, Leaf.val, Span.eta, Set.eta, Task.eta, Done.eta, job.eta, Late.eta, val_sl, val_nil] at hr); cbv) | exact trivial | rfl | refine Both.mk ?_ ?_ | (refine Imp.mk fun h => ?_; (try dsimp only at h); (try simp only [nc, Int.toNat_natCast, Bool.not_eq_true', Bool.not_eq_false', decide_eq_true_eq, decide_eq_false_iff_not, beq_iff_eq, beq_eq_false_iff_ne, ba_inj, bne_iff_ne, ne_eq, Bool.and_eq_true, Bool.or_eq_true, Bool.and_eq_false_iff, Bool.or_eq_false_iff, Int.not_le, Int.not_lt, Nat.not_le, Nat.not_lt] at h); (try simp only [nc] at h)) | refine Ob.mk ?_ ?_ | refine Chk.mk (by kernel_rfl) ?_ | refine Eq'.mk ?_ | (refine AllN.mk fun i hi => ?_; cbv) | (refine AllC.mk fun c hc hcm => ?_; (try dsimp only at hc); cbv) | (refine AllS.mk fun r hr => ?_; (try simp only [Dat.ok, Dat.dec, Leaf.ok, Leaf.val, Span.eta, Set.eta, Task.eta, Done.eta, job.eta, Late.eta, val_sl] at hr); cbv)
    cbv
    repeat' first | (show Stp _; exfalso; first | omega | (exact h ‹_›) | (exact absurd ‹_› h) | (exact Bool.false_ne_true (h.symm.trans (show _ = true by assumption)))) | (refine Stp.mk ?_; cbv) | (refine Gen.mk fun r hr => ?_; (try simp only [Dat.ok, Dat.dec, Leaf.ok, Leaf.val, Span.eta, Set.eta, Task.eta, Done.eta, job.eta, Late.eta, val_sl, val_nil] at hr); cbv) | exact trivial | rfl | refine Both.mk ?_ ?_ | (refine Imp.mk fun h => ?_; (try dsimp only at h); (try simp only [nc, Int.toNat_natCast, Bool.not_eq_true', Bool.not_eq_false', decide_eq_true_eq, decide_eq_false_iff_not, beq_iff_eq, beq_eq_false_iff_ne, ba_inj, bne_iff_ne, ne_eq, Bool.and_eq_true, Bool.or_eq_true, Bool.and_eq_false_iff, Bool.or_eq_false_iff, Int.not_le, Int.not_lt, Nat.not_le, Nat.not_lt] at h); (try simp only [nc] at h)) | refine Ob.mk ?_ ?_ | refine Chk.mk (by kernel_rfl) ?_ | refine Eq'.mk ?_ | (refine AllN.mk fun i hi => ?_; cbv) | (refine AllC.mk fun c hc hcm => ?_; (try dsimp only at hc); cbv) | (refine AllS.mk fun r hr => ?_; (try simp only [Dat.ok, Dat.dec, Leaf.ok, Leaf.val, Span.eta, Set.eta, Task.eta, Done.eta, job.eta, Late.eta, val_sl] at hr); cbv)
    all_goals ((try dsimp only at *); (try simp only [nc, Int.toNat_natCast, Bool.not_eq_true', Bool.not_eq_false', decide_eq_true_eq, decide_eq_false_iff_not, beq_iff_eq, beq_eq_false_iff_ne, ba_inj, bne_iff_ne, ne_eq, Bool.and_eq_true, Bool.or_eq_true, Bool.and_eq_false_iff, Bool.or_eq_false_iff, Int.not_le, Int.not_lt, Nat.not_le, Nat.not_lt] at *); (try simp only [nc] at *))
    all_goals try rw [nc] at *
    all_goals try simp only [Dat.dec, Leaf.val, Span.eta, Set.eta, Task.eta, Done.eta, job.eta, Late.eta, val_sl] at *
    all_goals try (first
      | omega
      | (unfold InR; omega)
      | exact ⟨by omega, by omega⟩
      | exact ⟨by omega, by omega, by omega⟩
      | exact ⟨trivial, by omega, by omega⟩
      | exact Nat.le_refl _)
    all_goals try have hjl : j < r.length := by omega
    all_goals try have ej : d.getD j Dat.d0 = r.getD j Dat.d0 := hs j (Nat.le_refl _) (by omega)
    · have hk9 : (r.getD j Dat.d0).task < k := by rw [← ej]; assumption
      refine ⟨⟨i + 1, j + 1, d.set i (d.getD j Dat.d0), by omega, by omega, by simpa using hl, fun m h1 h2 => ?_, ?_⟩, ?_, ?_, rfl, by (try dsimp only); omega⟩
      · rw [List.getD_eq_getElem?_getD, List.getElem?_set_ne (by omega), ← List.getD_eq_getElem?_getD]
        exact hs m (by omega) h2
      · rw [set_take (by omega), take_snoc Dat.d0 hjl, List.filter_append, ht, ej, List.filter_cons, if_pos (by simpa using hk9)]
        rfl
      · cbv
        repeat' first | (refine Stp.mk ?_; cbv) | (refine Gen.mk fun r hr => ?_; (try simp only [Dat.ok, Dat.dec, Leaf.ok, Leaf.val, Span.eta, Set.eta, Task.eta, Done.eta, job.eta, Late.eta, val_sl, val_nil] at hr); cbv) | exact trivial | rfl | refine Both.mk ?_ ?_ | (refine Imp.mk fun h => ?_; (try dsimp only at h); (try simp only [nc, Int.toNat_natCast, Bool.not_eq_true', Bool.not_eq_false', decide_eq_true_eq, decide_eq_false_iff_not, beq_iff_eq, beq_eq_false_iff_ne, ba_inj, bne_iff_ne, ne_eq, Bool.and_eq_true, Bool.or_eq_true, Bool.and_eq_false_iff, Bool.or_eq_false_iff, Int.not_le, Int.not_lt, Nat.not_le, Nat.not_lt] at h); (try simp only [nc] at h)) | refine Ob.mk ?_ ?_ | refine Chk.mk (by kernel_rfl) ?_ | refine Eq'.mk ?_ | (refine AllN.mk fun i hi => ?_; cbv) | (refine AllC.mk fun c hc hcm => ?_; (try dsimp only at hc); cbv) | (refine AllS.mk fun r hr => ?_; (try simp only [Dat.ok, Dat.dec, Leaf.ok, Leaf.val, Span.eta, Set.eta, Task.eta, Done.eta, job.eta, Late.eta, val_sl] at hr); cbv)
      · cbv
        repeat' first | (refine Stp.mk ?_; cbv) | (refine Gen.mk fun r hr => ?_; (try simp only [Dat.ok, Dat.dec, Leaf.ok, Leaf.val, Span.eta, Set.eta, Task.eta, Done.eta, job.eta, Late.eta, val_sl, val_nil] at hr); cbv) | exact trivial | rfl | refine Both.mk ?_ ?_ | (refine Imp.mk fun h => ?_; (try dsimp only at h); (try simp only [nc, Int.toNat_natCast, Bool.not_eq_true', Bool.not_eq_false', decide_eq_true_eq, decide_eq_false_iff_not, beq_iff_eq, beq_eq_false_iff_ne, ba_inj, bne_iff_ne, ne_eq, Bool.and_eq_true, Bool.or_eq_true, Bool.and_eq_false_iff, Bool.or_eq_false_iff, Int.not_le, Int.not_lt, Nat.not_le, Nat.not_lt] at h); (try simp only [nc] at h)) | refine Ob.mk ?_ ?_ | refine Chk.mk (by kernel_rfl) ?_ | refine Eq'.mk ?_ | (refine AllN.mk fun i hi => ?_; cbv) | (refine AllC.mk fun c hc hcm => ?_; (try dsimp only at hc); cbv) | (refine AllS.mk fun r hr => ?_; (try simp only [Dat.ok, Dat.dec, Leaf.ok, Leaf.val, Span.eta, Set.eta, Task.eta, Done.eta, job.eta, Late.eta, val_sl] at hr); cbv)
        all_goals ((try dsimp only at *); (try simp only [nc, Int.toNat_natCast, Bool.not_eq_true', Bool.not_eq_false', decide_eq_true_eq, decide_eq_false_iff_not, beq_iff_eq, beq_eq_false_iff_ne, ba_inj, bne_iff_ne, ne_eq, Bool.and_eq_true, Bool.or_eq_true, Bool.and_eq_false_iff, Bool.or_eq_false_iff, Int.not_le, Int.not_lt, Nat.not_le, Nat.not_lt] at *); (try simp only [nc] at *))
        all_goals first
          | (simp; done)
          | (rw [gd_set _ _ _ _ _ hi]; generalize decide (i = _) = c9; cases c9 <;> rfl)
          | fail
    · have hk9 : ¬ (r.getD j Dat.d0).task < k := by rw [← ej]; omega
      refine ⟨⟨i, j + 1, d, by omega, by omega, hl, fun m h1 h2 => hs m (by omega) h2, ?_⟩, ?_, ?_, rfl, by (try dsimp only); omega⟩
      · rw [take_snoc Dat.d0 hjl, List.filter_append, ht, List.filter_cons, if_neg (by simpa using hk9)]
        simp
      · cbv
        repeat' first | (refine Stp.mk ?_; cbv) | (refine Gen.mk fun r hr => ?_; (try simp only [Dat.ok, Dat.dec, Leaf.ok, Leaf.val, Span.eta, Set.eta, Task.eta, Done.eta, job.eta, Late.eta, val_sl, val_nil] at hr); cbv) | exact trivial | rfl | refine Both.mk ?_ ?_ | (refine Imp.mk fun h => ?_; (try dsimp only at h); (try simp only [nc, Int.toNat_natCast, Bool.not_eq_true', Bool.not_eq_false', decide_eq_true_eq, decide_eq_false_iff_not, beq_iff_eq, beq_eq_false_iff_ne, ba_inj, bne_iff_ne, ne_eq, Bool.and_eq_true, Bool.or_eq_true, Bool.and_eq_false_iff, Bool.or_eq_false_iff, Int.not_le, Int.not_lt, Nat.not_le, Nat.not_lt] at h); (try simp only [nc] at h)) | refine Ob.mk ?_ ?_ | refine Chk.mk (by kernel_rfl) ?_ | refine Eq'.mk ?_ | (refine AllN.mk fun i hi => ?_; cbv) | (refine AllC.mk fun c hc hcm => ?_; (try dsimp only at hc); cbv) | (refine AllS.mk fun r hr => ?_; (try simp only [Dat.ok, Dat.dec, Leaf.ok, Leaf.val, Span.eta, Set.eta, Task.eta, Done.eta, job.eta, Late.eta, val_sl] at hr); cbv)
      · cbv
        repeat' first | (refine Stp.mk ?_; cbv) | (refine Gen.mk fun r hr => ?_; (try simp only [Dat.ok, Dat.dec, Leaf.ok, Leaf.val, Span.eta, Set.eta, Task.eta, Done.eta, job.eta, Late.eta, val_sl, val_nil] at hr); cbv) | exact trivial | rfl | refine Both.mk ?_ ?_ | (refine Imp.mk fun h => ?_; (try dsimp only at h); (try simp only [nc, Int.toNat_natCast, Bool.not_eq_true', Bool.not_eq_false', decide_eq_true_eq, decide_eq_false_iff_not, beq_iff_eq, beq_eq_false_iff_ne, ba_inj, bne_iff_ne, ne_eq, Bool.and_eq_true, Bool.or_eq_true, Bool.and_eq_false_iff, Bool.or_eq_false_iff, Int.not_le, Int.not_lt, Nat.not_le, Nat.not_lt] at h); (try simp only [nc] at h)) | refine Ob.mk ?_ ?_ | refine Chk.mk (by kernel_rfl) ?_ | refine Eq'.mk ?_ | (refine AllN.mk fun i hi => ?_; cbv) | (refine AllC.mk fun c hc hcm => ?_; (try dsimp only at hc); cbv) | (refine AllS.mk fun r hr => ?_; (try simp only [Dat.ok, Dat.dec, Leaf.ok, Leaf.val, Span.eta, Set.eta, Task.eta, Done.eta, job.eta, Late.eta, val_sl] at hr); cbv)
    all_goals have hjr : j = r.length := by omega
    all_goals rw [hjr, List.take_length] at ht
    all_goals have hvt := val_take d 4 i (by omega)
    · refine ⟨⟨rfl, fun i _ => Dat.hok _⟩, ⟨rfl, fun i _ => Dat.hok _⟩, ?_⟩
      rw [hvt]
      show (d.take i).length ≤ _
      simp; omega
    · refine fin ?_
      show decide (_ = _) = true
      rw [hvt, ht, hA.2]
      simp
  · refine ⟨⟨m + 1, by omega, fun i hi => ?_⟩, ?_, ?_, rfl, by (try dsimp only); omega⟩
    · by_cases him : i = m
      · subst him; assumption
      · exact ha i (by omega)
    · cbv
      repeat' first | (refine Stp.mk ?_; cbv) | (refine Gen.mk fun r hr => ?_; (try simp only [Dat.ok, Dat.dec, Leaf.ok, Leaf.val, Span.eta, Set.eta, Task.eta, Done.eta, job.eta, Late.eta, val_sl, val_nil] at hr); cbv) | exact trivial | rfl | refine Both.mk ?_ ?_ | (refine Imp.mk fun h => ?_; (try dsimp only at h); (try simp only [nc, Int.toNat_natCast, Bool.not_eq_true', Bool.not_eq_false', decide_eq_true_eq, decide_eq_false_iff_not, beq_iff_eq, beq_eq_false_iff_ne, ba_inj, bne_iff_ne, ne_eq, Bool.and_eq_true, Bool.or_eq_true, Bool.and_eq_false_iff, Bool.or_eq_false_iff, Int.not_le, Int.not_lt, Nat.not_le, Nat.not_lt] at h); (try simp only [nc] at h)) | refine Ob.mk ?_ ?_ | refine Chk.mk (by kernel_rfl) ?_ | refine Eq'.mk ?_ | (refine AllN.mk fun i hi => ?_; cbv) | (refine AllC.mk fun c hc hcm => ?_; (try dsimp only at hc); cbv) | (refine AllS.mk fun r hr => ?_; (try simp only [Dat.ok, Dat.dec, Leaf.ok, Leaf.val, Span.eta, Set.eta, Task.eta, Done.eta, job.eta, Late.eta, val_sl] at hr); cbv)
    · cbv
      repeat' first | (refine Stp.mk ?_; cbv) | (refine Gen.mk fun r hr => ?_; (try simp only [Dat.ok, Dat.dec, Leaf.ok, Leaf.val, Span.eta, Set.eta, Task.eta, Done.eta, job.eta, Late.eta, val_sl, val_nil] at hr); cbv) | exact trivial | rfl | refine Both.mk ?_ ?_ | (refine Imp.mk fun h => ?_; (try dsimp only at h); (try simp only [nc, Int.toNat_natCast, Bool.not_eq_true', Bool.not_eq_false', decide_eq_true_eq, decide_eq_false_iff_not, beq_iff_eq, beq_eq_false_iff_ne, ba_inj, bne_iff_ne, ne_eq, Bool.and_eq_true, Bool.or_eq_true, Bool.and_eq_false_iff, Bool.or_eq_false_iff, Int.not_le, Int.not_lt, Nat.not_le, Nat.not_lt] at h); (try simp only [nc] at h)) | refine Ob.mk ?_ ?_ | refine Chk.mk (by kernel_rfl) ?_ | refine Eq'.mk ?_ | (refine AllN.mk fun i hi => ?_; cbv) | (refine AllC.mk fun c hc hcm => ?_; (try dsimp only at hc); cbv) | (refine AllS.mk fun r hr => ?_; (try simp only [Dat.ok, Dat.dec, Leaf.ok, Leaf.val, Span.eta, Set.eta, Task.eta, Done.eta, job.eta, Late.eta, val_sl] at hr); cbv)
  · refine fin ?_
    have hmr : m = r.length := by omega
    have h9 := flt_all hm ha
    rw [hmr, List.take_length] at h9
    show decide (_ = _) = true
    rw [hA.2, h9]
    simp
section
open Go.ChangeShapes Go.WideShapes Go.ChangeAt Go.RowKit Go.Joins Go.Deep
set_option linter.unusedVariables false
theorem playahead_own : ownKnob Try.prog.godebug = none := by kernel_rfl
theorem playahead_laidOut : laidOutB Try.prog = true := by kernel_rfl
theorem playahead_readOk {ts : Array TypeId} (h : ts.toList.all (fun t => Try.prog.readableRec t && decide (t < Try.prog.types.size)) = true) : ∀ t ∈ ts.toList, Try.prog.readableRec t = true ∧ t < Try.prog.types.size := fun t ht => by
  have := List.all_eq_true.1 h t ht
  simpa using this
mutual
theorem playahead_bD {H : Type} : ∀ d : DataW H, Rows.uptoBulk d = bulkD d
  | .lit l => by cases l <;> simp [Rows.uptoBulk, bulkD]
  | .nil => by simp [Rows.uptoBulk, bulkD]
  | .ptr d => by simp [Rows.uptoBulk, bulkD, playahead_bD d]
  | .slice a b => by simp [Rows.uptoBulk, bulkD, playahead_bL a, playahead_bL b]
  | .agg a => by simp [Rows.uptoBulk, bulkD, playahead_bL a]
  | .iface _ d => by simp [Rows.uptoBulk, bulkD, playahead_bD d]
  | .map e => by simp [Rows.uptoBulk, bulkD, playahead_bE e]
  | .held _ => by simp [Rows.uptoBulk, bulkD]
theorem playahead_bL {H : Type} : ∀ d : List (DataW H), Rows.uptoBulkAll d = bulkL d
  | [] => by simp [Rows.uptoBulkAll, bulkL]
  | d :: r => by simp [Rows.uptoBulkAll, bulkL, playahead_bD d, playahead_bL r]
theorem playahead_bE {H : Type} : ∀ d : List (Lit × DataW H), Rows.uptoBulkEntries d = bulkE d
  | [] => by simp [Rows.uptoBulkEntries, bulkE]
  | d :: r => by simp [Rows.uptoBulkEntries, bulkE, playahead_bX d, playahead_bE r]
theorem playahead_bX {H : Type} : ∀ d : Lit × DataW H, Rows.uptoBulkEntry d = bulkX d
  | (l, d) => by cases l <;> simp [Rows.uptoBulkEntry, bulkX, playahead_bD d]
end
set_option maxRecDepth 100000 in
theorem playahead_lifted (os : Os) (started : os.Started) (H : Type) (enc : TypeId × Value → H) (F : Stop.Interp) :
    ReturnsInHanded {} Try.checked os 5 .any ((Rows.OpenSpec.upto Rows.playAheadSpec).pre6 enc Try.prog Try.f5 Rows.playAheadUptoRow.domain false) (((Rows.OpenSpec.upto Rows.playAheadSpec).at F).post enc Try.prog Try.f5 false true false false) := by
  refine returnsInHanded_of_cond (C := Try.checked) (s := Rows.OpenSpec.upto Rows.playAheadSpec) (k := Rows.uptoSmall) rfl playahead_own started (by kernel_rfl) Try.func5
    (OpenSpec.witness (enc := enc) (C := Try.checked) (s := Rows.OpenSpec.upto Rows.playAheadSpec) (k := Rows.uptoSmall) rfl false ⟨#[], #[.slice none 0 0, .agg #[.int .i64 0, .slice none 0 0], .slice none 0 0, .int .i64 0, .int .i64 0], []⟩ 8 (by kernel_rfl) (by kernel_rfl) (by kernel_rfl)
      (x := ([.nil, .agg [.lit (.int .i64 0), .nil], .nil, .lit (.int .i64 0), .lit (.int .i64 0)], [], [])) (by kernel_rfl) rfl (by kernel_rfl)) ?_
  intro W base args ds gs before hval0 hW _ hk _
  show Calls Try.prog 5 args W fun e W' => ∃ v, e = .returned v ∧ Rows.playAheadSpec.post enc Try.prog Try.f5 false true false false W args v W'
  have hval : ∀ (j : Nat) t v, Try.f5.params[j]? = some t → args[j]? = some v → Value.okWide Try.prog W .any base t v := hval0
  have hW' := hW
  have hlt := hW.lt
  obtain ⟨p, q, hA0, hV, rfl, hfz, hnd⟩ := hW
  have hA : DataW.TrodAll enc Try.prog W 0 (fun _ => true) true Try.f5.params.toList args.toList ds p := hA0
  have hA1 := hA
  rw [Try.params5] at hA hval
  obtain ⟨v0, vs0, d0, ds0, p0, q0, hargs, rfl, rfl, h0, r0⟩ := trodAll_cons hA
  obtain ⟨v1, vs1, d1, ds1, p1, q1, rfl, rfl, rfl, h1, r1⟩ := trodAll_cons r0
  obtain ⟨v2, vs2, d2, ds2, p2, q2, rfl, rfl, rfl, h2, r2⟩ := trodAll_cons r1
  obtain ⟨v3, vs3, d3, ds3, p3, q3, rfl, rfl, rfl, h3, r3⟩ := trodAll_cons r2
  obtain ⟨v4, vs4, d4, ds4, p4, q4, rfl, rfl, rfl, h4, r4⟩ := trodAll_cons r3
  obtain ⟨rfl, rfl, rfl⟩ := trodAll_nil r4
  obtain rfl : args = #[v0, v1, v2, v3, v4] := by cases args; simp_all
  obtain ⟨rfl, rfl⟩ := trodVars_none hV
  obtain ⟨z0, z'0, z''0, rfl⟩ := okWide_slice Try.underlying22 (hval 0 22 v0 rfl rfl)
  obtain ⟨y0, u0, b0, e0⟩ := arg_leaf (α := (List Task)) (opn_slice Try.underlying22 (by kernel_rfl) (by decide) opn_Task) rfl h0
  obtain ⟨cs1, rfl, _⟩ := okWide_struct Try.underlying25 (hval 1 25 v1 rfl rfl)
  obtain ⟨y1, u1, b1, e1⟩ := arg_agg (α := Set) opn_Set h1
  obtain ⟨z2, z'2, z''2, rfl⟩ := okWide_slice Try.underlying26 (hval 2 26 v2 rfl rfl)
  obtain ⟨y2, u2, b2, e2⟩ := arg_leaf (α := (List Int)) (opn_slice Try.underlying26 (by kernel_rfl) (by decide) (opn_int Try.underlying3)) rfl h2
  obtain ⟨z3, rfl⟩ := okWide_int Try.underlying3 (hval 3 3 v3 rfl rfl)
  obtain ⟨y3, u3, b3, e3⟩ := arg_leaf (α := Int) (opn_int Try.underlying3) rfl h3
  obtain ⟨z4, rfl⟩ := okWide_int Try.underlying3 (hval 4 3 v4 rfl rfl)
  obtain ⟨y4, u4, b4, e4⟩ := arg_leaf (α := Int) (opn_int Try.underlying3) rfl h4
  have hB : Siz.bulk y0 + Siz.bulk y1 + Siz.bulk y2 + Siz.bulk y3 + Siz.bulk y4 ≤ 1048576 := by
    have h := of_decide_eq_true hk
    rw [playahead_bL] at h
    simp only [List.append_nil, bulkL] at h
    omega
  have hR := repL_cons (M := fun _ => False) (β := fun _ => none) (cp := fun _ => 0) (.c e0) (repL_cons (M := fun _ => False) (β := fun _ => none) (cp := fun _ => 0) (.c e1) (repL_cons (M := fun _ => False) (β := fun _ => none) (cp := fun _ => 0) (.c e2) (repL_cons (M := fun _ => False) (β := fun _ => none) (cp := fun _ => 0) (.c e3) (repL_cons (M := fun _ => False) (β := fun _ => none) (cp := fun _ => 0) (.c e4) (repL_nil)))))
  refine (law_callsA (playahead_vc y0 y1 y2 y3 y4 u0 u1 u2 u3 u4 hB) hR).mono fun e W' ⟨he, bel⟩ => ?_
  subst he
  exact ⟨_, rfl, _, _, _, [], _, [], hW', trodAll_mk1 (shut_bool Try.underlying4 _), trodAll_below playahead_laidOut bel (playahead_readOk (by kernel_rfl)) (fun x hx => hlt x (List.mem_append_left _ hx)) hA1, rfl, bel.frame _, fun h => by cases h⟩
theorem PlayAhead_proved : Rows.PlayAheadUptoSaid :=
  OpenClaim.holds_of_cond 5 Try.f5 rfl rfl rfl rfl rfl rfl rfl ⟨rfl, rfl, rfl, rfl, rfl⟩ rfl rfl rfl rfl rfl (by kernel_rfl) Try.func5 (by kernel_rfl)
    (of_decide_eq_true (by kernel_rfl)) (by unfold Func.isWrapper; first | (rw [if_pos (by decide +kernel)]; kernel_rfl) | (rw [if_neg (by decide +kernel)]; exact ⟨rfl, rfl⟩))
    (fun os started H enc _ F => playahead_lifted os started H enc F)
end

end Go.Proofs.Ythgmnejlhljlaaa
