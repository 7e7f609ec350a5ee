/- play.Play, walked. -/
import Derived.Test.YtcnfdohlgmipoaaPlayK
import Derived.Test.YtcnfdohlgmipoaaStJ5
import Derived.Test.YtcnfdohlgmipoaaHasP
import Derived.Test.YtcnfdohlgmipoaaJobs
set_option linter.all false
namespace Go.Proofs.Ytcnfdohlgmipoaa
open Go Go.Abs

def playC_R (r : Th ((List Done) × Int × Int)) : AV := .tup [.own 0 fun _ => (r ()).1.length, .i .i64 fun _ => (r ()).2.1, .i .i64 fun _ => (r ()).2.2]
def playC_H (r : Th ((List Done) × Int × Int)) : Hp := [vecO 43 fun _ => (r ()).1]
def playC_P (l : (List Task)) (s : Set) (first : (List Int)) (policy : Int) (until_ : Int) : Prop := l.length ≤ 9223372036854775807 ∧ s.spans.length ≤ 9223372036854775807 ∧ first.length ≤ 9223372036854775807
def playC_C : PC := fun A K => match A with
  | [l, .agg s, first, .i .i64 policy, .i .i64 until_] => Ob (fun _ => Leaf.ok (List Task) l ∧ Dat.ok Set s ∧ Leaf.ok (List Int) first ∧ playC_P (Leaf.val l) (Dat.dec s) (Leaf.val first) (policy ()) (until_ ())) (Gen (α := (List Done) × Int × Int) (fun _ => playJ (Leaf.val l) (Dat.dec s) (Leaf.val first) (policy ()) (until_ ())) fun r => K (playC_R fun _ => r) (playC_H fun _ => r))
  | _ => Bad 1002
noncomputable def cPa : FuncId → Con := fun f => match f with
  | 22 => pureCon (detPC tchk_D)
  | _ => fun _ _ _ => Bad 1001
theorem cPa_ok : ConOk Try.prog cPa := fun f A H K h => by
  unfold cPa at h
  split at h
  · exact ⟨⟨Try.f22, Try.func22, by kernel_rfl, by kernel_rfl⟩, pureCon_ok tchk_ok h⟩
  · cases h
noncomputable def cPb : FuncId → Con := fun f => match f with
  | 24 => pureCon (detPC check_D)
  | _ => fun _ _ _ => Bad 1001
theorem cPb_ok : ConOk Try.prog cPb := fun f A H K h => by
  unfold cPb at h
  split at h
  · exact ⟨⟨Try.f24, Try.func24, by kernel_rfl, by kernel_rfl⟩, pureCon_ok check_ok h⟩
  · cases h
noncomputable def cPc : FuncId → Con := fun f => match f with
  | 26 => pureCon (detPC firstsC_D)
  | _ => fun _ _ _ => Bad 1001
theorem cPc_ok : ConOk Try.prog cPc := fun f A H K h => by
  unfold cPc at h
  split at h
  · exact ⟨⟨Try.f26, Try.func26, by kernel_rfl, by kernel_rfl⟩, pureCon_ok firstsC_ok h⟩
  · cases h
noncomputable def cPl : FuncId → Con := fun f => match f with
  | 27 => pureCon jobsC_C
  | 28 => ssfJ_K
  | 32 => pureCon (detPC hasC_D)
  | 21 => inlCon E cPa noDraws [0, 1] Try.f21
  | 23 => inlCon E cPb noDraws [0, 1] Try.f23
  | 25 => inlCon E cPc noDraws [0, 1, 2] Try.f25
  | 31 => pushS_K
  | 34 => popS_K
  | 33 => inlCon E noCon noDraws [0, 2] Try.f33
  | _ => fun _ _ _ => Bad 1001
theorem cPl_ok : ConOk Try.prog cPl := fun f A H K h => by
  unfold cPl at h
  split at h
  · exact ⟨⟨Try.f27, Try.func27, by kernel_rfl, by kernel_rfl⟩, pureCon_ok jobsC_ok h⟩
  · exact ⟨⟨Try.f28, Try.func28, by kernel_rfl, by kernel_rfl⟩, ssfJ_ok h⟩
  · exact ⟨⟨Try.f32, Try.func32, by kernel_rfl, by kernel_rfl⟩, pureCon_ok hasC_ok h⟩
  · exact ⟨⟨Try.f21, Try.func21, by kernel_rfl, by kernel_rfl⟩, inl_ok envOk zl cPa_ok noDraws_ok Try.func21 h⟩
  · exact ⟨⟨Try.f23, Try.func23, by kernel_rfl, by kernel_rfl⟩, inl_ok envOk zl cPb_ok noDraws_ok Try.func23 h⟩
  · exact ⟨⟨Try.f25, Try.func25, by kernel_rfl, by kernel_rfl⟩, inl_ok envOk zl cPc_ok noDraws_ok Try.func25 h⟩
  · exact ⟨⟨Try.f31, Try.func31, by kernel_rfl, by kernel_rfl⟩, pushS_ok h⟩
  · exact ⟨⟨Try.f34, Try.func34, by kernel_rfl, by kernel_rfl⟩, popS_ok h⟩
  · exact ⟨⟨Try.f33, Try.func33, by kernel_rfl, by kernel_rfl⟩, inl_ok envOk zl noCon_ok noDraws_ok Try.func33 h⟩
  · cases h
theorem firsts_iff {l : List Task} {first : List Int} : firstsV l first = 0 ↔ first.length = l.length ∧ first.any badF = false := by
  unfold firstsV
  split
  · rename_i h; exact ⟨fun _ => h, fun _ => rfl⟩
  · rename_i h; exact ⟨fun q => (by cases q), fun q => absurd q h⟩
theorem pull_step {fx : Bool} {t : Int} {C l : List job} {j n : Nat} {l' : List job} (h : j < C.length) (hc : (C.getD j Dat.d0).done.came ≤ t) (he : pushA fx l n (C.getD j Dat.d0) = l') : pullA fx t (C.drop j) l n = pullA fx t (C.drop (j + 1)) l' (n + 1) := by
  rw [drop_cons Dat.d0 h, pullA, if_pos hc, he]
theorem pull_end {fx : Bool} {t : Int} {C l : List job} {j n : Nat} (h : j < C.length → t < (C.getD j Dat.d0).done.came) : pullA fx t (C.drop j) l n = (C.drop j, l, n) := by
  by_cases hj : j < C.length
  · rw [drop_cons Dat.d0 hj, pullA, if_neg (by have := h hj; omega)]
  · rw [List.drop_eq_nil_of_le (by omega)]; rfl
theorem play_step {fx : Bool} {s : Set} {u k n n2 : Nat} {td td2 l l2 : List job} {out : List Done} {idle : Int} (h : k < u) (hp : pullA fx k td l n = (td2, l2, n2)) :
    playA fx s (u - k) k td ⟨l, n, out, idle⟩ = playA fx s (u - (k + 1)) (k + 1 : Nat) td2 (tickA fx s k ⟨l2, n2, out, idle⟩) := by
  rw [show u - k = (u - (k + 1)) + 1 by omega, playA]
  dsimp only
  rw [hp]
  rfl
theorem less_get {l : List job} (h : 0 < l.length) (k : Nat) : (lessA l).getD k Dat.d0 = if k = 0 then ⟨(l.getD 0 Dat.d0).done, (l.getD 0 Dat.d0).due, (l.getD 0 Dat.d0).left - 1⟩ else l.getD k Dat.d0 := by
  unfold lessA
  cases k with
  | zero => simp [h]
  | succ k => simp [List.getD_eq_getElem?_getD, List.getElem?_set]
theorem less_len (l : List job) : (lessA l).length = l.length := by simp [lessA]
theorem less_mem {l : List job} {k : Int} (h : 0 < l.length) (hl : ∀ x ∈ l, -k ≤ x.left ∧ x.left ≤ 1000000) : ∀ x ∈ lessA l, -(k + 1) ≤ x.left ∧ x.left ≤ 1000000 := fun x hx => by
  unfold lessA at hx
  rcases List.mem_or_eq_of_mem_set hx with hx | rfl
  · have := hl x hx; omega
  · have e : l.getD 0 jz = l[0] := by simp [h]
    have := hl _ (List.getElem_mem h)
    rw [← e] at this
    dsimp only
    omega
theorem tick_no {fx : Bool} {s : Set} {t : Int} {a : StA} (h : (hasV s t).1 = false) : tickA fx s t a = a := by rw [tickA, if_neg (by rw [h]; decide)]
theorem tick_idle {fx : Bool} {s : Set} {t : Int} {l : List job} {n : Nat} {out : List Done} {idle : Int} (h : (hasV s t).1 = true) (hn : n = 0) : tickA fx s t ⟨l, n, out, idle⟩ = ⟨l, n, out, idle + 1⟩ := by rw [tickA, if_pos h, if_pos hn]
theorem less_left {l : List job} (h : 0 < l.length) : ((lessA l).getD 0 jz).left = (l.getD 0 Dat.d0).left - 1 := by
  have := less_get h 0
  rw [if_pos rfl] at this
  exact congrArg job.left this
theorem tick_less {fx : Bool} {s : Set} {t : Int} {l : List job} {n : Nat} {out : List Done} {idle : Int} (h : (hasV s t).1 = true) (hn : ¬ n = 0) (hl : 0 < l.length) (h1 : ¬ (l.getD 0 Dat.d0).left - 1 = 0) : tickA fx s t ⟨l, n, out, idle⟩ = ⟨lessA l, n, out, idle⟩ := by
  rw [tickA, if_pos h, if_neg hn, if_neg (by dsimp only; rw [less_left hl]; exact h1)]
theorem tick_pop {fx : Bool} {s : Set} {t : Int} {l : List job} {n : Nat} {out : List Done} {idle : Int} (h : (hasV s t).1 = true) (hn : ¬ n = 0) (hl : 0 < l.length) (h1 : (l.getD 0 Dat.d0).left - 1 = 0) : tickA fx s t ⟨l, n, out, idle⟩ = ⟨popA fx (lessA l) n, n - 1, out ++ [doneA t ((popA fx (lessA l) n).getD (n - 1) jz)], idle⟩ := by
  rw [tickA, if_pos h, if_neg hn, if_pos (by dsimp only; rw [less_left hl]; exact h1)]
structure PwX (fx : Bool) (s : Set) (u : Nat) (C : List job) where
  k : Nat
  j : Nat
  l : List job
  n : Nat
  out : List Done
  idle : Int
  hk : k ≤ u
  hj : j ≤ C.length
  hn : n ≤ l.length
  hnj : n ≤ j
  ho : out.length ≤ k
  hi0 : 0 ≤ idle
  hi1 : idle ≤ k
  hb : l.length ≤ 3000
  hl : ∀ x ∈ l, -(k : Int) ≤ x.left ∧ x.left ≤ 1000000
  he : playA fx s u 0 C ⟨[], 0, [], 0⟩ = playA fx s (u - k) k (C.drop j) ⟨l, n, out, idle⟩
structure PuX (fx : Bool) (C : List job) (t : Int) (j0 n0 : Nat) (l0 : List job) where
  j : Nat
  l : List job
  n : Nat
  hj : j ≤ C.length
  hn : n ≤ l.length
  hnj : n ≤ j
  hb : l.length ≤ 3000
  hl : ∀ x ∈ l, -t ≤ x.left ∧ x.left ≤ 1000000
  he : pullA fx t (C.drop j0) l0 n0 = pullA fx t (C.drop j) l n
theorem pushA_mem {fx : Bool} {l : List job} {n : Nat} {x y : job} (hn : n ≤ l.length) (hy : y ∈ pushA fx l n x) : y = x ∨ y ∈ l := by
  have key : ∀ (f : Nat) (h : List job) (j : Nat), j < h.length → (upH (keyLt fx) jz f h j).Perm h := by
    intro f
    induction f with
    | zero => intro h j _; exact List.Perm.refl _
    | succ f ih =>
      intro h j hj
      rw [upH]
      split
      · exact List.Perm.refl _
      · exact (ih _ _ (by rw [swapH_len]; omega)).trans (swapH_perm jz (by omega) hj)
  · have := (key (n + 1) (l.take n ++ [x]) n (by simp [hn])).mem_iff.1 hy
    rcases List.mem_append.1 this with h | h
    · exact .inr (List.mem_of_mem_take h)
    · exact .inl (List.mem_singleton.1 h)
theorem popA_len {fx : Bool} {l : List job} {n : Nat} : (popA fx l n).length = l.length := by unfold popA; rw [downH_len, swapH_len]
theorem popA_mem {fx : Bool} {l : List job} {n : Nat} {y : job} (h0 : 0 < n) (hn : n ≤ l.length) (hy : y ∈ popA fx l n) : y ∈ l := by
  have key : ∀ (f : Nat) (h : List job) (i : Nat), i < n → n ≤ h.length → (downH (keyLt fx) jz f h i (n - 1)).Perm h := by
    intro f
    induction f with
    | zero => intro h j _ _; exact List.Perm.refl _
    | succ f ih =>
      intro h j hj hl
      rw [downH]
      split
      · exact List.Perm.refl _
      · rename_i hc
        have hk : kidH (keyLt fx) jz h j (n - 1) < n := by
          have : ¬ n - 1 ≤ 2 * j + 1 := fun q => hc (.inl q)
          unfold kidH; split <;> omega
        exact (ih _ _ hk (by rw [swapH_len]; exact hl)).trans (swapH_perm jz (by omega) (by omega))
  exact ((key n (swapH jz l 0 (n - 1)) 0 h0 (by rw [swapH_len]; exact hn)).trans (swapH_perm jz (by omega) (by omega))).mem_iff.1 hy
theorem less_val {l : List job} (h : 0 < l.length) : (slV (.sl 6 (fun _ => l.length) fun k => pickL (fun _ => decide (k () = Int.toNat 0)) (splice 5 [.i .i64 fun _ => (l.getD (Int.toNat 0) Dat.d0).left - 1] (Dat.enc fun _ => l.getD (k ()) Dat.d0)) (Dat.enc fun _ => l.getD (k ()) Dat.d0)) : List job) = lessA l := by
  refine lst_eq (d := Dat.d0) (less_len l).symm fun i hi => ?_
  rw [less_get h]
  by_cases h0 : i = 0
  · subst h0; rfl
  · rw [if_neg h0]
    have e : decide (i = Int.toNat 0) = false := decide_eq_false h0
    simp only [e]
    rfl
set_option maxRecDepth 100000 in
set_option maxHeartbeats 4000000 in
theorem playC_vc (l : (List Task)) (s : Set) (first : (List Int)) (policy : Int) (until_ : Int) (hp : playC_P l s first policy until_) : FnOk Try.prog 11 [Leaf.av fun _ => l, .agg (Dat.enc fun _ => s), Leaf.av fun _ => first, .i .i64 fun _ => policy, .i .i64 fun _ => until_] [] (outA (playC_R fun _ => playJ l s first policy until_) (playC_H fun _ => playJ l s first policy until_)) := by
  refine fn_ok envOk zl cPl_ok noDraws_ok (keep := [0, 1, 2, 3, 4, 5, 6, 7, 10, 11, 12, 14, 15, 16, 17, 18, 19, 20, 21, 22, 24, 28, 29, 30, 35, 51, 60, 68, 69, 70, 83, 100, 103, 123]) Try.func11 rfl ?_
  obtain ⟨p1, p2, p3⟩ : l.length ≤ 9223372036854775807 ∧ s.spans.length ≤ 9223372036854775807 ∧ first.length ≤ 9223372036854775807 := hp
  have fin0 : ∀ (e : Int) kl H, playJ l s first policy until_ = ([], 0, e) → outA (playC_R fun _ => playJ l s first policy until_) (playC_H fun _ => playJ l s first policy until_) (.tup [.nil, .i .i64 fun _ => 0, .i .i64 fun _ => e]) H kl := fun e kl H h => by
    rw [h]
    cbv
    repeat' first | (refine Stp.mk ?_; cbv) | (refine Gen.mk fun r hr => ?_; (try simp only [Dat.ok, Dat.dec, Leaf.ok, Leaf.val, Span.eta, Set.eta, Task.eta, Done.eta, job.eta, Late.eta, val_sl, val_nil] at hr); cbv) | exact trivial | rfl | refine Both.mk ?_ ?_ | (refine Imp.mk fun h => ?_; (try dsimp only at h); (try simp only [nc, Int.toNat_natCast, ne_eq, zz] at h); (try simp only [nc] at h)) | refine Ob.mk ?_ ?_ | refine Chk.mk (by kernel_rfl) ?_ | refine Eq'.mk ?_ | (refine AllN.mk fun i hi => ?_; cbv) | (refine AllC.mk fun c hc hcm => ?_; (try dsimp only at hc); cbv) | (refine AllS.mk fun r hr => ?_; (try simp only [Dat.ok, Dat.dec, Leaf.ok, Leaf.val, Span.eta, Set.eta, Task.eta, Done.eta, job.eta, Late.eta, val_sl] at hr); cbv)
    all_goals first | rfl | (exfalso; omega)
  generalize hK : outA (playC_R fun _ => playJ l s first policy until_) (playC_H fun _ => playJ l s first policy until_) = K at fin0 ⊢
  cbv
  refine .un 4 ?_
  cbv
  repeat' first | (show Stp _; exfalso; first | omega | (exact h ‹_›) | (exact absurd ‹_› h) | (exact Bool.false_ne_true (h.symm.trans (show _ = true by assumption)))) | (refine Stp.mk ?_; cbv) | (refine Gen.mk fun r hr => ?_; (try simp only [Dat.ok, Dat.dec, Leaf.ok, Leaf.val, Span.eta, Set.eta, Task.eta, Done.eta, job.eta, Late.eta, val_sl, val_nil] at hr); cbv) | exact trivial | rfl | refine Both.mk ?_ ?_ | (refine Imp.mk fun h => ?_; (try dsimp only at h); (try simp only [nc, Int.toNat_natCast, ne_eq, zz] at h); (try simp only [nc] at h)) | refine Ob.mk ?_ ?_ | refine Chk.mk (by kernel_rfl) ?_ | refine Eq'.mk ?_ | (refine AllN.mk fun i hi => ?_; cbv) | (refine AllC.mk fun c hc hcm => ?_; (try dsimp only at hc); cbv) | (refine AllS.mk fun r hr => ?_; (try simp only [Dat.ok, Dat.dec, Leaf.ok, Leaf.val, Span.eta, Set.eta, Task.eta, Done.eta, job.eta, Late.eta, val_sl] at hr); cbv)
  all_goals ((try dsimp only at *); (try simp only [nc, Int.toNat_natCast, ne_eq, zz] at *); (try simp only [nc] at *))
  all_goals try simp only [Dat.dec, Leaf.val, Span.eta, Set.eta, Task.eta, Done.eta, job.eta, Late.eta, val_sl] at *
  all_goals try (
    refine fin0 _ _ _ ?_
    first
      | (rw [playJ, if_pos (by assumption)]; rfl)
      | (rw [playJ, if_neg (by simpa using ‹tchkV l = 0›), if_pos (by assumption)]; rfl)
    done)
  all_goals try (
    refine fin0 _ _ _ ?_
    rw [playJ]
    repeat (first | rw [if_pos (by first | assumption | omega)] | rw [if_neg (by first | assumption | omega)])
    done)
  all_goals first
    | omega
    | exact ⟨by omega, by omega⟩
    | (unfold InR; omega)
    | exact ⟨⟨rfl, fun i _ => Dat.hok _⟩, p1⟩
    | exact ⟨⟨trivial, rfl, fun i _ => Dat.hok _⟩, p2⟩
    | exact ⟨⟨rfl, fun i _ => Dat.hok _⟩, ⟨rfl, fun i _ => Dat.hok _⟩, p3⟩
    | skip
  all_goals have ht1 := tchk_iff.1 (show tchkV l = 0 by assumption)
  all_goals have hf1 := firsts_iff.1 (show firstsV l first = 0 by assumption)
  all_goals try (exact ⟨⟨rfl, fun i _ => Dat.hok _⟩, ⟨rfl, fun i _ => Dat.hok _⟩, ht1.1, ht1.2, hf1.1, hf1.2, by omega, by omega⟩)
  all_goals try (
    have hq : ¬ r.2 = 0 := by assumption
    subst hr
    refine fin0 _ _ _ ?_
    rw [playJ, if_neg (fun q => q (by assumption)), if_neg (fun q => q (by assumption)), if_neg (fun q => q (by assumption)), if_neg (by omega), if_pos hq]
    done)
  all_goals try (
    have hq : r.2 = 0 := by assumption
    subst hr
    refine ⟨rfl, trivial, fun i _ => Dat.hok _, ?_⟩
    show (jobsV l first until_).1.length ≤ 1048576
    unfold jobsV
    split
    · exact Nat.le_trans (by assumption) (by decide)
    · exact Nat.zero_le _
    done)
  all_goals (
    rename_i r0 hr0 _ _ _
    have hq : r0.2 = 0 := by assumption
    have h6 : (jobsL until_ 0 l first).length ≤ 2000 := by
      rw [hr0] at hq
      unfold jobsV at hq
      split at hq
      · assumption
      · cases hq
    have eC : ssfJ_F r = sortS (jobsL until_ 0 l first) := by
      rw [hr, hr0]
      unfold ssfJ_F jobsV
      rw [if_pos h6]
    have hr0l : r0.1.length = (sortS (jobsL until_ 0 l first)).length := by
      rw [hr0, sortS_len]; unfold jobsV; rw [if_pos h6]
    rw [eC]
    clear hr hr0 eC
    have hCl : (sortS (jobsL until_ 0 l first)).length ≤ 2000 := by rw [sortS_len]; exact h6
    have eJ : playJ l s first policy until_ = ((playA (decide (policy = 2)) s until_.toNat 0 (sortS (jobsL until_ 0 l first)) ⟨[], 0, [], 0⟩).out, (playA (decide (policy = 2)) s until_.toNat 0 (sortS (jobsL until_ 0 l first)) ⟨[], 0, [], 0⟩).idle, 0) := by
      have e1 := play_eq (fx := decide (policy = 2)) (s := s) (k := until_.toNat) (t := 0) (td := sortS (jobsL until_ 0 l first)) (q := []) (a := ⟨[], 0, [], 0⟩) ⟨Nat.le_refl _, fun k _ hk => absurd hk (Nat.not_lt_zero k), List.Perm.refl _, List.Pairwise.nil⟩ sortS_apart
      rw [playJ, if_neg (fun q => q (by assumption)), if_neg (fun q => q (by assumption)), if_neg (fun q => q (by assumption)), if_neg (by omega)]
      have e2 : jobsV l first until_ = (jobsL until_ 0 l first, 0) := by unfold jobsV; rw [if_pos h6]
      rw [e2, if_neg (fun q => q rfl), ← e1]
    have hCm : ∀ x ∈ sortS (jobsL until_ 0 l first), 0 ≤ x.left ∧ x.left ≤ 1000000 := fun x hx => by
      obtain ⟨m1, m2, m3⟩ := jobsL_mem ((sortS_perm _).mem_iff.1 hx)
      have m4 := (jobsF_mem x m3).2.2.2.2.1
      have m5 := okT_iff.1 (tk_get (show x.done.task.toNat - 0 < l.length by omega) ht1.2)
      rw [m4]; omega
    have fin1 : ∀ (out : List Done) (idle : Int) (a0 a1 a2 a3 a4 a5 : AObj) (H : Hp) kl, playJ l s first policy until_ = (out, idle, 0) → outA (playC_R fun _ => playJ l s first policy until_) (playC_H fun _ => playJ l s first policy until_) (.tup [.own 6 fun _ => out.length, .i .i64 fun _ => idle, .i .i64 fun _ => 0]) (a0 :: a1 :: a2 :: a3 :: a4 :: a5 :: vecO 43 (fun _ => out) :: H) kl := fun out idle a0 a1 a2 a3 a4 a5 H kl h => by
      rw [h]
      cbv
      repeat' first | (refine Stp.mk ?_; cbv) | (refine Gen.mk fun r hr => ?_; (try simp only [Dat.ok, Dat.dec, Leaf.ok, Leaf.val, Span.eta, Set.eta, Task.eta, Done.eta, job.eta, Late.eta, val_sl, val_nil] at hr); cbv) | exact trivial | rfl | refine Both.mk ?_ ?_ | (refine Imp.mk fun h => ?_; (try dsimp only at h); (try simp only [nc, Int.toNat_natCast, ne_eq, zz] at h); (try simp only [nc] at h)) | refine Ob.mk ?_ ?_ | refine Chk.mk (by kernel_rfl) ?_ | refine Eq'.mk ?_ | (refine AllN.mk fun i hi => ?_; cbv) | (refine AllC.mk fun c hc hcm => ?_; (try dsimp only at hc); cbv) | (refine AllS.mk fun r hr => ?_; (try simp only [Dat.ok, Dat.dec, Leaf.ok, Leaf.val, Span.eta, Set.eta, Task.eta, Done.eta, job.eta, Late.eta, val_sl] at hr); cbv)
    rw [hK] at fin1
    rw [eJ] at fin0 fin1
    generalize sortS (jobsL until_ 0 l first) = C at *
    clear hK
    refine LoopVC.frame [16, 19, 20, 21, 22, 24, 69, 70, 83, 100, 103, 123] (PwX (decide (policy = 2)) s until_.toNat C) (fun x => [(69, .i .i64 fun _ => x.k), (16, .vw 3 6 (fun _ => x.j) fun _ => C.length - x.j), (19, .own 6 fun _ => x.out.length), (20, .i .i64 fun _ => x.idle)]) (fun x => [(4, .blk [.own 5 fun _ => x.n, .b fun _ => policy == 2]), (5, vecO 70 fun _ => x.l), (6, vecO 43 fun _ => x.out)]) [5, 6] (fun x => until_.toNat - x.k)
      ⟨0, 0, [], 0, [], 0, Nat.zero_le _, Nat.zero_le _, Nat.zero_le _, Nat.zero_le _, Nat.zero_le _, Int.le_refl _, Int.le_refl _, Nat.zero_le _, fun x hx => by (cases hx), rfl⟩ rfl (fun _ => rfl) ?_ ?_ fun ⟨k, j, ls, n, out, idle, hk, hj, hn, hnj, ho, hi0, hi1, hb, hl, he⟩ => ?_
    · cbv
      repeat' first | (refine Stp.mk ?_; cbv) | (refine Gen.mk fun r hr => ?_; (try simp only [Dat.ok, Dat.dec, Leaf.ok, Leaf.val, Span.eta, Set.eta, Task.eta, Done.eta, job.eta, Late.eta, val_sl, val_nil] at hr); cbv) | exact trivial | rfl | refine Both.mk ?_ ?_ | (refine Imp.mk fun h => ?_; (try dsimp only at h); (try simp only [nc, Int.toNat_natCast, ne_eq, zz] at h); (try simp only [nc] at h)) | refine Ob.mk ?_ ?_ | refine Chk.mk (by kernel_rfl) ?_ | refine Eq'.mk ?_ | (refine AllN.mk fun i hi => ?_; cbv) | (refine AllC.mk fun c hc hcm => ?_; (try dsimp only at hc); cbv) | (refine AllS.mk fun r hr => ?_; (try simp only [Dat.ok, Dat.dec, Leaf.ok, Leaf.val, Span.eta, Set.eta, Task.eta, Done.eta, job.eta, Late.eta, val_sl] at hr); cbv)
      all_goals exact hr0l
    · cbv
      repeat' first | (refine Stp.mk ?_; cbv) | (refine Gen.mk fun r hr => ?_; (try simp only [Dat.ok, Dat.dec, Leaf.ok, Leaf.val, Span.eta, Set.eta, Task.eta, Done.eta, job.eta, Late.eta, val_sl, val_nil] at hr); cbv) | exact trivial | rfl | refine Both.mk ?_ ?_ | (refine Imp.mk fun h => ?_; (try dsimp only at h); (try simp only [nc, Int.toNat_natCast, ne_eq, zz] at h); (try simp only [nc] at h)) | refine Ob.mk ?_ ?_ | refine Chk.mk (by kernel_rfl) ?_ | refine Eq'.mk ?_ | (refine AllN.mk fun i hi => ?_; cbv) | (refine AllC.mk fun c hc hcm => ?_; (try dsimp only at hc); cbv) | (refine AllS.mk fun r hr => ?_; (try simp only [Dat.ok, Dat.dec, Leaf.ok, Leaf.val, Span.eta, Set.eta, Task.eta, Done.eta, job.eta, Late.eta, val_sl] at hr); cbv)
    cbv
    repeat' first | (show Stp _; exfalso; first | omega | (exact h ‹_›) | (exact absurd ‹_› h) | (exact Bool.false_ne_true (h.symm.trans (show _ = true by assumption)))) | (refine Stp.mk ?_; cbv) | (refine Gen.mk fun r hr => ?_; (try simp only [Dat.ok, Dat.dec, Leaf.ok, Leaf.val, Span.eta, Set.eta, Task.eta, Done.eta, job.eta, Late.eta, val_sl, val_nil] at hr); cbv) | exact trivial | rfl | refine Both.mk ?_ ?_ | (refine Imp.mk fun h => ?_; (try dsimp only at h); (try simp only [nc, Int.toNat_natCast, ne_eq, zz] at h); (try simp only [nc] at h)) | refine Ob.mk ?_ ?_ | refine Chk.mk (by kernel_rfl) ?_ | refine Eq'.mk ?_ | (refine AllN.mk fun i hi => ?_; cbv) | (refine AllC.mk fun c hc hcm => ?_; (try dsimp only at hc); cbv) | (refine AllS.mk fun r hr => ?_; (try simp only [Dat.ok, Dat.dec, Leaf.ok, Leaf.val, Span.eta, Set.eta, Task.eta, Done.eta, job.eta, Late.eta, val_sl] at hr); cbv)
    all_goals ((try dsimp only at *); (try simp only [nc, Int.toNat_natCast, ne_eq, zz] at *); (try simp only [nc] at *))
    all_goals try rw [nc] at *
    all_goals try (exfalso; omega)
    all_goals try (
      have hku : k = until_.toNat := by omega
      refine fin1 _ _ _ _ _ _ _ _ _ _ ?_
      rw [he, hku, Nat.sub_self]
      rfl
      done)
    refine LoopVC.frame [16, 83] (PuX (decide (policy = 2)) C k j n ls) (fun x => [(16, .vw 3 6 (fun _ => x.j) fun _ => C.length - x.j)]) (fun x => [(4, .blk [.own 5 fun _ => x.n, .b fun _ => policy == 2]), (5, vecO 70 fun _ => x.l)]) [5, 6] (fun x => C.length - x.j) ⟨j, ls, n, hj, hn, hnj, hb, hl, rfl⟩ rfl (fun _ => rfl) ?_ ?_ fun ⟨j2, l2, n2, hj2, hn2, hnj2, hb2, hl2, he2⟩ => ?_
    iterate 2
      · cbv
        repeat' first | (refine Stp.mk ?_; cbv) | (refine Gen.mk fun r hr => ?_; (try simp only [Dat.ok, Dat.dec, Leaf.ok, Leaf.val, Span.eta, Set.eta, Task.eta, Done.eta, job.eta, Late.eta, val_sl, val_nil] at hr); cbv) | exact trivial | rfl | refine Both.mk ?_ ?_ | (refine Imp.mk fun h => ?_; (try dsimp only at h); (try simp only [nc, Int.toNat_natCast, ne_eq, zz] at h); (try simp only [nc] at h)) | refine Ob.mk ?_ ?_ | refine Chk.mk (by kernel_rfl) ?_ | refine Eq'.mk ?_ | (refine AllN.mk fun i hi => ?_; cbv) | (refine AllC.mk fun c hc hcm => ?_; (try dsimp only at hc); cbv) | (refine AllS.mk fun r hr => ?_; (try simp only [Dat.ok, Dat.dec, Leaf.ok, Leaf.val, Span.eta, Set.eta, Task.eta, Done.eta, job.eta, Late.eta, val_sl] at hr); cbv)
    cbv
    repeat' first | (show Stp _; exfalso; first | omega | (exact h ‹_›) | (exact absurd ‹_› h) | (exact Bool.false_ne_true (h.symm.trans (show _ = true by assumption)))) | (refine Stp.mk ?_; cbv) | (refine Gen.mk fun r hr => ?_; (try simp only [Dat.ok, Dat.dec, Leaf.ok, Leaf.val, Span.eta, Set.eta, Task.eta, Done.eta, job.eta, Late.eta, val_sl, val_nil] at hr); cbv) | exact trivial | rfl | refine Both.mk ?_ ?_ | (refine Imp.mk fun h => ?_; (try dsimp only at h); (try simp only [nc, Int.toNat_natCast, ne_eq, zz] at h); (try simp only [nc] at h)) | refine Ob.mk ?_ ?_ | refine Chk.mk (by kernel_rfl) ?_ | refine Eq'.mk ?_ | (refine AllN.mk fun i hi => ?_; cbv) | (refine AllC.mk fun c hc hcm => ?_; (try dsimp only at hc); cbv) | (refine AllS.mk fun r hr => ?_; (try simp only [Dat.ok, Dat.dec, Leaf.ok, Leaf.val, Span.eta, Set.eta, Task.eta, Done.eta, job.eta, Late.eta, val_sl] at hr); cbv)
    all_goals ((try dsimp only at *); (try simp only [nc, Int.toNat_natCast, ne_eq, zz] at *); (try simp only [nc] at *))
    all_goals try rw [nc] at *
    all_goals try (exfalso; omega)
    all_goals try simp only [Dat.dec, Leaf.val, Span.eta, Set.eta, Task.eta, Done.eta, job.eta, Late.eta, val_sl] at *
    all_goals try (first
      | omega
      | (unfold InR; omega)
      | exact ⟨by omega, by omega⟩
      | exact ⟨rfl, hn2, by omega, fun i _ => Dat.hok _, trivial, trivial, trivial, trivial, trivial, trivial⟩
      | exact ⟨rfl, by omega, hn2, by omega, fun i _ => ⟨trivial, trivial, trivial, trivial, trivial, trivial⟩⟩
      | exact ⟨⟨trivial, rfl, fun i _ => Dat.hok _⟩, p2⟩
      | (have h9 := hl2 _ (jget_mem (show 0 < l2.length by omega))
         have e9 : Int.toNat 0 = 0 := rfl
         rw [e9]
         unfold InR; omega))
    · subst hr
      have e0 : j2 + Int.toNat 0 = j2 := rfl
      have hj3 : j2 < C.length := by omega
      refine ⟨⟨j2 + 1, pushA (decide (policy = 2)) l2 n2 (C.getD j2 Dat.d0), n2 + 1, by omega, by rw [pushA_len hn2]; omega, by omega, by rw [pushA_len hn2]; omega, fun x hx => ?_, he2.trans (pull_step hj3 (show (C.getD (j2 + Int.toNat 0) Dat.d0).done.came ≤ (k : Int) by assumption) rfl)⟩, ?_, ?_, rfl, by (try dsimp only); omega⟩
      · rcases pushA_mem hn2 hx with rfl | hx
        · have := hCm _ (jget_mem hj3)
          omega
        · exact hl2 x hx
      · cbv
        repeat' first | (refine Stp.mk ?_; cbv) | (refine Gen.mk fun r hr => ?_; (try simp only [Dat.ok, Dat.dec, Leaf.ok, Leaf.val, Span.eta, Set.eta, Task.eta, Done.eta, job.eta, Late.eta, val_sl, val_nil] at hr); cbv) | exact trivial | rfl | refine Both.mk ?_ ?_ | (refine Imp.mk fun h => ?_; (try dsimp only at h); (try simp only [nc, Int.toNat_natCast, ne_eq, zz] at h); (try simp only [nc] at h)) | refine Ob.mk ?_ ?_ | refine Chk.mk (by kernel_rfl) ?_ | refine Eq'.mk ?_ | (refine AllN.mk fun i hi => ?_; cbv) | (refine AllC.mk fun c hc hcm => ?_; (try dsimp only at hc); cbv) | (refine AllS.mk fun r hr => ?_; (try simp only [Dat.ok, Dat.dec, Leaf.ok, Leaf.val, Span.eta, Set.eta, Task.eta, Done.eta, job.eta, Late.eta, val_sl] at hr); cbv)
        all_goals first
          | (show C.length - j2 - 1 = C.length - (j2 + 1); omega)
          | (show (((C.length - j2 : Nat) : Int) - 1).toNat = C.length - (j2 + 1); omega)
          | fail
      · cbv
        repeat' first | (refine Stp.mk ?_; cbv) | (refine Gen.mk fun r hr => ?_; (try simp only [Dat.ok, Dat.dec, Leaf.ok, Leaf.val, Span.eta, Set.eta, Task.eta, Done.eta, job.eta, Late.eta, val_sl, val_nil] at hr); cbv) | exact trivial | rfl | refine Both.mk ?_ ?_ | (refine Imp.mk fun h => ?_; (try dsimp only at h); (try simp only [nc, Int.toNat_natCast, ne_eq, zz] at h); (try simp only [nc] at h)) | refine Ob.mk ?_ ?_ | refine Chk.mk (by kernel_rfl) ?_ | refine Eq'.mk ?_ | (refine AllN.mk fun i hi => ?_; cbv) | (refine AllC.mk fun c hc hcm => ?_; (try dsimp only at hc); cbv) | (refine AllS.mk fun r hr => ?_; (try simp only [Dat.ok, Dat.dec, Leaf.ok, Leaf.val, Span.eta, Set.eta, Task.eta, Done.eta, job.eta, Late.eta, val_sl] at hr); cbv)
    · have hE := he2.trans (pull_end (fun _ => show (k : Int) < (C.getD (j2 + Int.toNat 0) Dat.d0).done.came by assumption))
      refine ⟨⟨k + 1, j2, l2, n2, out, idle, by omega, hj2, hn2, hnj2, by omega, hi0, by omega, hb2, fun x hx => by have := hl2 x hx; omega, he.trans ((play_step (by omega) hE).trans (by rw [tick_no (by assumption)]))⟩, ?_, ?_, rfl, by (try dsimp only); omega⟩
      iterate 2
        · cbv
          repeat' first | (refine Stp.mk ?_; cbv) | (refine Gen.mk fun r hr => ?_; (try simp only [Dat.ok, Dat.dec, Leaf.ok, Leaf.val, Span.eta, Set.eta, Task.eta, Done.eta, job.eta, Late.eta, val_sl, val_nil] at hr); cbv) | exact trivial | rfl | refine Both.mk ?_ ?_ | (refine Imp.mk fun h => ?_; (try dsimp only at h); (try simp only [nc, Int.toNat_natCast, ne_eq, zz] at h); (try simp only [nc] at h)) | refine Ob.mk ?_ ?_ | refine Chk.mk (by kernel_rfl) ?_ | refine Eq'.mk ?_ | (refine AllN.mk fun i hi => ?_; cbv) | (refine AllC.mk fun c hc hcm => ?_; (try dsimp only at hc); cbv) | (refine AllS.mk fun r hr => ?_; (try simp only [Dat.ok, Dat.dec, Leaf.ok, Leaf.val, Span.eta, Set.eta, Task.eta, Done.eta, job.eta, Late.eta, val_sl] at hr); cbv)
    · have hE := he2.trans (pull_end (fun _ => show (k : Int) < (C.getD (j2 + Int.toNat 0) Dat.d0).done.came by assumption))
      refine ⟨⟨k + 1, j2, l2, n2, out, idle + 1, by omega, hj2, hn2, hnj2, by omega, by omega, by omega, hb2, fun x hx => by have := hl2 x hx; omega, he.trans ((play_step (by omega) hE).trans (by rw [tick_idle (by assumption) (by omega)]))⟩, ?_, ?_, rfl, by (try dsimp only); omega⟩
      iterate 2
        · cbv
          repeat' first | (refine Stp.mk ?_; cbv) | (refine Gen.mk fun r hr => ?_; (try simp only [Dat.ok, Dat.dec, Leaf.ok, Leaf.val, Span.eta, Set.eta, Task.eta, Done.eta, job.eta, Late.eta, val_sl, val_nil] at hr); cbv) | exact trivial | rfl | refine Both.mk ?_ ?_ | (refine Imp.mk fun h => ?_; (try dsimp only at h); (try simp only [nc, Int.toNat_natCast, ne_eq, zz] at h); (try simp only [nc] at h)) | refine Ob.mk ?_ ?_ | refine Chk.mk (by kernel_rfl) ?_ | refine Eq'.mk ?_ | (refine AllN.mk fun i hi => ?_; cbv) | (refine AllC.mk fun c hc hcm => ?_; (try dsimp only at hc); cbv) | (refine AllS.mk fun r hr => ?_; (try simp only [Dat.ok, Dat.dec, Leaf.ok, Leaf.val, Span.eta, Set.eta, Task.eta, Done.eta, job.eta, Late.eta, val_sl] at hr); cbv)
    · have hE := he2.trans (pull_end (fun _ => show (k : Int) < (C.getD (j2 + Int.toNat 0) Dat.d0).done.came by assumption))
      have h0l : 0 < l2.length := by omega
      rw [less_val h0l] at hr
      refine ⟨⟨k + 1, j2, r, n2 - 1, out ++ [doneA k (r.getD (n2 - 1) Dat.d0)], idle, by omega, hj2, by rw [hr, popA_len, less_len]; omega, by omega, by rw [List.length_append, List.length_singleton]; omega, hi0, by omega, by rw [hr, popA_len, less_len]; omega, fun x hx => ?_, he.trans ((play_step (by omega) hE).trans (by rw [tick_pop (by assumption) (by omega) h0l (by assumption), hr]; rfl))⟩, ?_, ?_, rfl, by (try dsimp only); omega⟩
      · rw [hr] at hx
        exact less_mem h0l hl2 x (popA_mem (by omega) (by rw [less_len]; omega) hx)
      · cbv
        repeat' first | (refine Stp.mk ?_; cbv) | (refine Gen.mk fun r hr => ?_; (try simp only [Dat.ok, Dat.dec, Leaf.ok, Leaf.val, Span.eta, Set.eta, Task.eta, Done.eta, job.eta, Late.eta, val_sl, val_nil] at hr); cbv) | exact trivial | rfl | refine Both.mk ?_ ?_ | (refine Imp.mk fun h => ?_; (try dsimp only at h); (try simp only [nc, Int.toNat_natCast, ne_eq, zz] at h); (try simp only [nc] at h)) | refine Ob.mk ?_ ?_ | refine Chk.mk (by kernel_rfl) ?_ | refine Eq'.mk ?_ | (refine AllN.mk fun i hi => ?_; cbv) | (refine AllC.mk fun c hc hcm => ?_; (try dsimp only at hc); cbv) | (refine AllS.mk fun r hr => ?_; (try simp only [Dat.ok, Dat.dec, Leaf.ok, Leaf.val, Span.eta, Set.eta, Task.eta, Done.eta, job.eta, Late.eta, val_sl] at hr); cbv)
        all_goals first
          | (simp; done)
          | fail
      · cbv
        repeat' first | (refine Stp.mk ?_; cbv) | (refine Gen.mk fun r hr => ?_; (try simp only [Dat.ok, Dat.dec, Leaf.ok, Leaf.val, Span.eta, Set.eta, Task.eta, Done.eta, job.eta, Late.eta, val_sl, val_nil] at hr); cbv) | exact trivial | rfl | refine Both.mk ?_ ?_ | (refine Imp.mk fun h => ?_; (try dsimp only at h); (try simp only [nc, Int.toNat_natCast, ne_eq, zz] at h); (try simp only [nc] at h)) | refine Ob.mk ?_ ?_ | refine Chk.mk (by kernel_rfl) ?_ | refine Eq'.mk ?_ | (refine AllN.mk fun i hi => ?_; cbv) | (refine AllC.mk fun c hc hcm => ?_; (try dsimp only at hc); cbv) | (refine AllS.mk fun r hr => ?_; (try simp only [Dat.ok, Dat.dec, Leaf.ok, Leaf.val, Span.eta, Set.eta, Task.eta, Done.eta, job.eta, Late.eta, val_sl] at hr); cbv)
        all_goals ((try dsimp only at *); (try simp only [nc, Int.toNat_natCast, ne_eq, zz] at *); (try simp only [nc] at *))
        all_goals first
          | (rw [gd_snoc out _ Dat.d0 i (by assumption)]; cases decide (i < out.length) <;> rfl)
          | (simp; done)
          | fail
    · have hE := he2.trans (pull_end (fun _ => show (k : Int) < (C.getD (j2 + Int.toNat 0) Dat.d0).done.came by assumption))
      have h0l : 0 < l2.length := by omega
      have e0 : Int.toNat 0 = 0 := rfl
      refine ⟨⟨k + 1, j2, lessA l2, n2, out, idle, by omega, hj2, by rw [less_len]; exact hn2, hnj2, by omega, hi0, by omega, by rw [less_len]; exact hb2, less_mem h0l hl2, he.trans ((play_step (by omega) hE).trans (by rw [tick_less (by assumption) (by omega) h0l (by assumption)]))⟩, ?_, ?_, rfl, by (try dsimp only); omega⟩
      · cbv
        repeat' first | (refine Stp.mk ?_; cbv) | (refine Gen.mk fun r hr => ?_; (try simp only [Dat.ok, Dat.dec, Leaf.ok, Leaf.val, Span.eta, Set.eta, Task.eta, Done.eta, job.eta, Late.eta, val_sl, val_nil] at hr); cbv) | exact trivial | rfl | refine Both.mk ?_ ?_ | (refine Imp.mk fun h => ?_; (try dsimp only at h); (try simp only [nc, Int.toNat_natCast, ne_eq, zz] at h); (try simp only [nc] at h)) | refine Ob.mk ?_ ?_ | refine Chk.mk (by kernel_rfl) ?_ | refine Eq'.mk ?_ | (refine AllN.mk fun i hi => ?_; cbv) | (refine AllC.mk fun c hc hcm => ?_; (try dsimp only at hc); cbv) | (refine AllS.mk fun r hr => ?_; (try simp only [Dat.ok, Dat.dec, Leaf.ok, Leaf.val, Span.eta, Set.eta, Task.eta, Done.eta, job.eta, Late.eta, val_sl] at hr); cbv)
      · cbv
        repeat' first | (refine Stp.mk ?_; cbv) | (refine Gen.mk fun r hr => ?_; (try simp only [Dat.ok, Dat.dec, Leaf.ok, Leaf.val, Span.eta, Set.eta, Task.eta, Done.eta, job.eta, Late.eta, val_sl, val_nil] at hr); cbv) | exact trivial | rfl | refine Both.mk ?_ ?_ | (refine Imp.mk fun h => ?_; (try dsimp only at h); (try simp only [nc, Int.toNat_natCast, ne_eq, zz] at h); (try simp only [nc] at h)) | refine Ob.mk ?_ ?_ | refine Chk.mk (by kernel_rfl) ?_ | refine Eq'.mk ?_ | (refine AllN.mk fun i hi => ?_; cbv) | (refine AllC.mk fun c hc hcm => ?_; (try dsimp only at hc); cbv) | (refine AllS.mk fun r hr => ?_; (try simp only [Dat.ok, Dat.dec, Leaf.ok, Leaf.val, Span.eta, Set.eta, Task.eta, Done.eta, job.eta, Late.eta, val_sl] at hr); cbv)
        all_goals ((try dsimp only at *); (try simp only [nc, Int.toNat_natCast, ne_eq, zz] at *); (try simp only [nc] at *))
        all_goals first
          | exact (less_len l2).symm
          | (rw [less_get h0l]
             by_cases hi0 : i = 0
             · subst hi0; rfl
             · rw [if_neg hi0, decide_eq_false (show ¬ i = Int.toNat 0 from hi0)]
               rfl)
    · have hE := he2.trans (pull_end (fun hj3 => by omega))
      refine ⟨⟨k + 1, j2, l2, n2, out, idle, by omega, hj2, hn2, hnj2, by omega, hi0, by omega, hb2, fun x hx => by have := hl2 x hx; omega, he.trans ((play_step (by omega) hE).trans (by rw [tick_no (by assumption)]))⟩, ?_, ?_, rfl, by (try dsimp only); omega⟩
      iterate 2
        · cbv
          repeat' first | (refine Stp.mk ?_; cbv) | (refine Gen.mk fun r hr => ?_; (try simp only [Dat.ok, Dat.dec, Leaf.ok, Leaf.val, Span.eta, Set.eta, Task.eta, Done.eta, job.eta, Late.eta, val_sl, val_nil] at hr); cbv) | exact trivial | rfl | refine Both.mk ?_ ?_ | (refine Imp.mk fun h => ?_; (try dsimp only at h); (try simp only [nc, Int.toNat_natCast, ne_eq, zz] at h); (try simp only [nc] at h)) | refine Ob.mk ?_ ?_ | refine Chk.mk (by kernel_rfl) ?_ | refine Eq'.mk ?_ | (refine AllN.mk fun i hi => ?_; cbv) | (refine AllC.mk fun c hc hcm => ?_; (try dsimp only at hc); cbv) | (refine AllS.mk fun r hr => ?_; (try simp only [Dat.ok, Dat.dec, Leaf.ok, Leaf.val, Span.eta, Set.eta, Task.eta, Done.eta, job.eta, Late.eta, val_sl] at hr); cbv)
    · have hE := he2.trans (pull_end (fun hj3 => by omega))
      refine ⟨⟨k + 1, j2, l2, n2, out, idle + 1, by omega, hj2, hn2, hnj2, by omega, by omega, by omega, hb2, fun x hx => by have := hl2 x hx; omega, he.trans ((play_step (by omega) hE).trans (by rw [tick_idle (by assumption) (by omega)]))⟩, ?_, ?_, rfl, by (try dsimp only); omega⟩
      iterate 2
        · cbv
          repeat' first | (refine Stp.mk ?_; cbv) | (refine Gen.mk fun r hr => ?_; (try simp only [Dat.ok, Dat.dec, Leaf.ok, Leaf.val, Span.eta, Set.eta, Task.eta, Done.eta, job.eta, Late.eta, val_sl, val_nil] at hr); cbv) | exact trivial | rfl | refine Both.mk ?_ ?_ | (refine Imp.mk fun h => ?_; (try dsimp only at h); (try simp only [nc, Int.toNat_natCast, ne_eq, zz] at h); (try simp only [nc] at h)) | refine Ob.mk ?_ ?_ | refine Chk.mk (by kernel_rfl) ?_ | refine Eq'.mk ?_ | (refine AllN.mk fun i hi => ?_; cbv) | (refine AllC.mk fun c hc hcm => ?_; (try dsimp only at hc); cbv) | (refine AllS.mk fun r hr => ?_; (try simp only [Dat.ok, Dat.dec, Leaf.ok, Leaf.val, Span.eta, Set.eta, Task.eta, Done.eta, job.eta, Late.eta, val_sl] at hr); cbv)
    · have hE := he2.trans (pull_end (fun hj3 => by omega))
      have h0l : 0 < l2.length := by omega
      rw [less_val h0l] at hr
      refine ⟨⟨k + 1, j2, r, n2 - 1, out ++ [doneA k (r.getD (n2 - 1) Dat.d0)], idle, by omega, hj2, by rw [hr, popA_len, less_len]; omega, by omega, by rw [List.length_append, List.length_singleton]; omega, hi0, by omega, by rw [hr, popA_len, less_len]; omega, fun x hx => ?_, he.trans ((play_step (by omega) hE).trans (by rw [tick_pop (by assumption) (by omega) h0l (by assumption), hr]; rfl))⟩, ?_, ?_, rfl, by (try dsimp only); omega⟩
      · rw [hr] at hx
        exact less_mem h0l hl2 x (popA_mem (by omega) (by rw [less_len]; omega) hx)
      · cbv
        repeat' first | (refine Stp.mk ?_; cbv) | (refine Gen.mk fun r hr => ?_; (try simp only [Dat.ok, Dat.dec, Leaf.ok, Leaf.val, Span.eta, Set.eta, Task.eta, Done.eta, job.eta, Late.eta, val_sl, val_nil] at hr); cbv) | exact trivial | rfl | refine Both.mk ?_ ?_ | (refine Imp.mk fun h => ?_; (try dsimp only at h); (try simp only [nc, Int.toNat_natCast, ne_eq, zz] at h); (try simp only [nc] at h)) | refine Ob.mk ?_ ?_ | refine Chk.mk (by kernel_rfl) ?_ | refine Eq'.mk ?_ | (refine AllN.mk fun i hi => ?_; cbv) | (refine AllC.mk fun c hc hcm => ?_; (try dsimp only at hc); cbv) | (refine AllS.mk fun r hr => ?_; (try simp only [Dat.ok, Dat.dec, Leaf.ok, Leaf.val, Span.eta, Set.eta, Task.eta, Done.eta, job.eta, Late.eta, val_sl] at hr); cbv)
        all_goals first
          | (simp; done)
          | fail
      · cbv
        repeat' first | (refine Stp.mk ?_; cbv) | (refine Gen.mk fun r hr => ?_; (try simp only [Dat.ok, Dat.dec, Leaf.ok, Leaf.val, Span.eta, Set.eta, Task.eta, Done.eta, job.eta, Late.eta, val_sl, val_nil] at hr); cbv) | exact trivial | rfl | refine Both.mk ?_ ?_ | (refine Imp.mk fun h => ?_; (try dsimp only at h); (try simp only [nc, Int.toNat_natCast, ne_eq, zz] at h); (try simp only [nc] at h)) | refine Ob.mk ?_ ?_ | refine Chk.mk (by kernel_rfl) ?_ | refine Eq'.mk ?_ | (refine AllN.mk fun i hi => ?_; cbv) | (refine AllC.mk fun c hc hcm => ?_; (try dsimp only at hc); cbv) | (refine AllS.mk fun r hr => ?_; (try simp only [Dat.ok, Dat.dec, Leaf.ok, Leaf.val, Span.eta, Set.eta, Task.eta, Done.eta, job.eta, Late.eta, val_sl] at hr); cbv)
        all_goals ((try dsimp only at *); (try simp only [nc, Int.toNat_natCast, ne_eq, zz] at *); (try simp only [nc] at *))
        all_goals first
          | (rw [gd_snoc out _ Dat.d0 i (by assumption)]; cases decide (i < out.length) <;> rfl)
          | (simp; done)
          | fail
    · have hE := he2.trans (pull_end (fun hj3 => by omega))
      have h0l : 0 < l2.length := by omega
      have e0 : Int.toNat 0 = 0 := rfl
      refine ⟨⟨k + 1, j2, lessA l2, n2, out, idle, by omega, hj2, by rw [less_len]; exact hn2, hnj2, by omega, hi0, by omega, by rw [less_len]; exact hb2, less_mem h0l hl2, he.trans ((play_step (by omega) hE).trans (by rw [tick_less (by assumption) (by omega) h0l (by assumption)]))⟩, ?_, ?_, rfl, by (try dsimp only); omega⟩
      · cbv
        repeat' first | (refine Stp.mk ?_; cbv) | (refine Gen.mk fun r hr => ?_; (try simp only [Dat.ok, Dat.dec, Leaf.ok, Leaf.val, Span.eta, Set.eta, Task.eta, Done.eta, job.eta, Late.eta, val_sl, val_nil] at hr); cbv) | exact trivial | rfl | refine Both.mk ?_ ?_ | (refine Imp.mk fun h => ?_; (try dsimp only at h); (try simp only [nc, Int.toNat_natCast, ne_eq, zz] at h); (try simp only [nc] at h)) | refine Ob.mk ?_ ?_ | refine Chk.mk (by kernel_rfl) ?_ | refine Eq'.mk ?_ | (refine AllN.mk fun i hi => ?_; cbv) | (refine AllC.mk fun c hc hcm => ?_; (try dsimp only at hc); cbv) | (refine AllS.mk fun r hr => ?_; (try simp only [Dat.ok, Dat.dec, Leaf.ok, Leaf.val, Span.eta, Set.eta, Task.eta, Done.eta, job.eta, Late.eta, val_sl] at hr); cbv)
      · cbv
        repeat' first | (refine Stp.mk ?_; cbv) | (refine Gen.mk fun r hr => ?_; (try simp only [Dat.ok, Dat.dec, Leaf.ok, Leaf.val, Span.eta, Set.eta, Task.eta, Done.eta, job.eta, Late.eta, val_sl, val_nil] at hr); cbv) | exact trivial | rfl | refine Both.mk ?_ ?_ | (refine Imp.mk fun h => ?_; (try dsimp only at h); (try simp only [nc, Int.toNat_natCast, ne_eq, zz] at h); (try simp only [nc] at h)) | refine Ob.mk ?_ ?_ | refine Chk.mk (by kernel_rfl) ?_ | refine Eq'.mk ?_ | (refine AllN.mk fun i hi => ?_; cbv) | (refine AllC.mk fun c hc hcm => ?_; (try dsimp only at hc); cbv) | (refine AllS.mk fun r hr => ?_; (try simp only [Dat.ok, Dat.dec, Leaf.ok, Leaf.val, Span.eta, Set.eta, Task.eta, Done.eta, job.eta, Late.eta, val_sl] at hr); cbv)
        all_goals ((try dsimp only at *); (try simp only [nc, Int.toNat_natCast, ne_eq, zz] at *); (try simp only [nc] at *))
        all_goals first
          | exact (less_len l2).symm
          | (rw [less_get h0l]
             by_cases hi0 : i = 0
             · subst hi0; rfl
             · rw [if_neg hi0, decide_eq_false (show ¬ i = Int.toNat 0 from hi0)]
               rfl)
    all_goals fail)
theorem playC_ok : PcOk Try.prog 11 (playC_C) := fun A K h => by
  unfold playC_C at h
  split at h
  · rename_i l s first policy until_
    cases h with
    | mk h1 h2 =>
      obtain ⟨g0, g1, g2, hp⟩ := h1
      refine FnOk.pre ?_ (A' := [Leaf.av fun _ => (Leaf.val l : (List Task)), .agg (Dat.enc fun _ => (Dat.dec s : Set)), Leaf.av fun _ => (Leaf.val first : (List Int)), .i .i64 fun _ => policy (), .i .i64 fun _ => until_ ()]) (.mk (Leaf.hle _ g0) (.mk (Dat.hle _ g1) (.mk (Leaf.hle _ g2) (.mk (.mk (.mk rfl) (.mk rfl)) (.mk (.mk (.mk rfl) (.mk rfl)) (trivial))))))
      exact FnOk.out (K := fun r H _ => K r H) (playC_vc (Leaf.val l) (Dat.dec s) (Leaf.val first) (policy ()) (until_ ()) hp) rfl h2.out
  · cases h

end Go.Proofs.Ytcnfdohlgmipoaa
