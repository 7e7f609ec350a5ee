/- rank.Find, walked. -/
import Derived.Test.YtabchkekhpmpiaaRank3
import Derived.Test.YtabchkekhpmpiaaDel
set_option linter.all false
namespace Go.Proofs.Ytabchkekhpmpiaa
open Go Go.Abs

def findF (l : List Task) (s : Set) : Nat → List Int → List Int → Option (List Int)
  | 0, _, out => some out
  | p + 1, left, out => if pF (okF l s left) 0 left < 0 then none else findF l s p (delU left (pF (okF l s left) 0 left).toNat ((pF (okF l s left) 0 left).toNat + 1)) (out.set p (left.getD (pF (okF l s left) 0 left).toNat 0))
def zerL (n : Nat) : List Int := List.replicate n 0
theorem zerL_len (n : Nat) : (zerL n).length = n := by unfold zerL; simp
theorem zerL_get {n i : Nat} : (zerL n).getD i 0 = 0 := by
  unfold zerL
  rw [List.getD_eq_getElem?_getD, List.getElem?_replicate]
  split <;> rfl
def findV (l : List Task) (s : Set) : List Int × Int :=
  if tchkV l = 0 then (if checkV s = 0 then (match findF l s l.length (byL 50 l) (zerL l.length) with | some o => (o, 0) | none => ([], 11)) else ([], checkV s)) else ([], tchkV l)
theorem pF_lt {p : Int → Bool} : ∀ {l : List Int} {k : Nat}, -1 ≤ pF p k l ∧ (0 ≤ pF p k l → (k : Int) ≤ pF p k l ∧ pF p k l < k + l.length)
  | [], k => by simp [pF]
  | y :: r, k => by
    have ih := pF_lt (p := p) (l := r) (k := k + 1)
    rw [pF]
    split
    · simp only [List.length_cons]; omega
    · simp only [List.length_cons]; omega
structure FdX (l : List Task) (s : Set) where
  p : Nat
  left : List Int
  out : List Int
  h1 : p ≤ l.length
  h2 : left.length = p
  h3 : ∀ j ∈ left, 0 ≤ j ∧ j.toNat < l.length
  h4 : out.length = l.length
  hr : findF l s l.length (byL 50 l) (zerL l.length) = findF l s p left out
theorem delU_mem {l : List Int} {a b : Nat} {x : Int} (h : x ∈ delU l a b) : x ∈ l := by
  unfold delU at h
  rcases List.mem_append.1 h with h | h
  · exact List.mem_of_mem_take h
  · exact List.mem_of_mem_drop h
theorem byL_len (k : Nat) (l : List Task) : (byL k l).length = l.length := stabL_len.trans (rngL_len _)
theorem byL_mem {k : Nat} {l : List Task} {j : Int} (h : j ∈ byL k l) : 0 ≤ j ∧ j.toNat < l.length := rngL_mem (stabL_perm.mem_iff.1 h)
def find_R (r : Th ((List Int) × Int)) : AV := .tup [.own 0 fun _ => (r ()).1.length, .i .i64 fun _ => (r ()).2]
def find_H (r : Th ((List Int) × Int)) : Hp := [vecO 3 fun _ => (r ()).1]
def find_P (l : (List Task)) (s : Set) : Prop := l.length ≤ 9223372036854775807 ∧ s.spans.length ≤ 9223372036854775807
def find_C : PC := fun A K => match A with
  | [l, .agg s] => Ob (fun _ => Leaf.ok (List Task) l ∧ Dat.ok Set s ∧ find_P (Leaf.val l) (Dat.dec s)) (Gen (α := (List Int) × Int) (fun _ => findV (Leaf.val l) (Dat.dec s)) fun r => K (find_R fun _ => r) (find_H fun _ => r))
  | _ => Bad 1002
noncomputable def cFd : FuncId → Con := fun f => match f with
  | 48 => pureCon by_C
  | 51 => pureCon (detPC check_D)
  | 52 => pureConX (detPC xf_D)
  | 54 => dlInt_K
  | _ => fun _ _ _ => Bad 1001
theorem cFd_ok : ConOk Try.prog cFd := fun f A H K h => by
  unfold cFd at h
  split at h
  · exact ⟨⟨Try.f48, Try.func48, by kernel_rfl, by kernel_rfl⟩, pureCon_ok byT_ok h⟩
  · exact ⟨⟨Try.f51, Try.func51, by kernel_rfl, by kernel_rfl⟩, pureCon_ok check_ok h⟩
  · exact ⟨⟨Try.f52, Try.func52, by kernel_rfl, by kernel_rfl⟩, pureConX_ok xf_ok h⟩
  · exact ⟨⟨Try.f54, Try.func54, by kernel_rfl, by kernel_rfl⟩, dlInt_ok h⟩
  · cases h
set_option maxRecDepth 100000 in
set_option maxHeartbeats 4000000 in
theorem find_vc (l : (List Task)) (s : Set) (hp : find_P l s) : FnOk Try.prog 27 [Leaf.av fun _ => l, .agg (Dat.enc fun _ => s)] [] (outA (find_R fun _ => findV l s) (find_H fun _ => findV l s)) := by
  refine fn_ok envOk zl cFd_ok noDraws_ok (keep := [0, 1, 2, 3, 4, 5, 6, 7, 8, 9, 10, 11, 18, 23, 32, 39]) Try.func27 rfl ?_
  obtain ⟨hp1, hp2⟩ : l.length ≤ 9223372036854775807 ∧ s.spans.length ≤ 9223372036854775807 := hp
  have fin0 : ∀ (e : Int) kl H, findV l s = ([], e) → outA (find_R fun _ => findV l s) (find_H fun _ => findV l s) (.tup [.nil, .i .i64 fun _ => e]) H kl := fun e kl H h => by
    rw [h]
    cbv
    repeat' first | (refine Stp.mk ?_; cbv) | (refine Gen.mk fun r hr => ?_; (try simp only [Dat.ok, Dat.dec, Leaf.ok, Leaf.val, Span.eta, Set.eta, Task.eta, Done.eta, Late.eta, val_sl, val_nil] at hr); cbv) | exact trivial | rfl | refine Both.mk ?_ ?_ | (refine Imp.mk fun h => ?_; (try dsimp only at h); (try simp only [nc, Int.toNat_natCast, Bool.not_eq_true', Bool.not_eq_false', decide_eq_true_eq, decide_eq_false_iff_not, beq_iff_eq, beq_eq_false_iff_ne, ba_inj, bne_iff_ne, ne_eq, Bool.and_eq_true, Bool.or_eq_true, Bool.and_eq_false_iff, Bool.or_eq_false_iff, Int.not_le, Int.not_lt, Nat.not_le, Nat.not_lt] at h); (try simp only [nc] at h)) | refine Ob.mk ?_ ?_ | refine Chk.mk (by kernel_rfl) ?_ | refine Eq'.mk ?_ | (refine AllN.mk fun i hi => ?_; cbv) | (refine AllS.mk fun r hr => ?_; (try simp only [Dat.ok, Dat.dec, Leaf.ok, Leaf.val, Span.eta, Set.eta, Task.eta, Done.eta, Late.eta, val_sl] at hr); cbv)
    all_goals first | rfl | (exfalso; omega)
  have fin1 : ∀ (d : List Int) (n : Nat) kl a b c e H, findV l s = (d, 0) → n = d.length → outA (find_R fun _ => findV l s) (find_H fun _ => findV l s) (.tup [.own 4 fun _ => n, .i .i64 fun _ => 0]) (a :: b :: c :: e :: vecO 3 (fun _ => d) :: H) kl := fun d n kl a b c e H h hn => by
    subst hn
    rw [h]
    cbv
    repeat' first | (refine Stp.mk ?_; cbv) | (refine Gen.mk fun r hr => ?_; (try simp only [Dat.ok, Dat.dec, Leaf.ok, Leaf.val, Span.eta, Set.eta, Task.eta, Done.eta, Late.eta, val_sl, val_nil] at hr); cbv) | exact trivial | rfl | refine Both.mk ?_ ?_ | (refine Imp.mk fun h => ?_; (try dsimp only at h); (try simp only [nc, Int.toNat_natCast, Bool.not_eq_true', Bool.not_eq_false', decide_eq_true_eq, decide_eq_false_iff_not, beq_iff_eq, beq_eq_false_iff_ne, ba_inj, bne_iff_ne, ne_eq, Bool.and_eq_true, Bool.or_eq_true, Bool.and_eq_false_iff, Bool.or_eq_false_iff, Int.not_le, Int.not_lt, Nat.not_le, Nat.not_lt] at h); (try simp only [nc] at h)) | refine Ob.mk ?_ ?_ | refine Chk.mk (by kernel_rfl) ?_ | refine Eq'.mk ?_ | (refine AllN.mk fun i hi => ?_; cbv) | (refine AllS.mk fun r hr => ?_; (try simp only [Dat.ok, Dat.dec, Leaf.ok, Leaf.val, Span.eta, Set.eta, Task.eta, Done.eta, Late.eta, val_sl] at hr); cbv)
  generalize outA (find_R fun _ => findV l s) (find_H fun _ => findV l s) = K at fin0 fin1 ⊢
  cbv
  repeat' first | (show Stp _; exfalso; first | omega | (exact h ‹_›) | (exact absurd ‹_› h) | (exact Bool.false_ne_true (h.symm.trans (show _ = true by assumption)))) | (refine Stp.mk ?_; cbv) | (refine Gen.mk fun r hr => ?_; (try simp only [Dat.ok, Dat.dec, Leaf.ok, Leaf.val, Span.eta, Set.eta, Task.eta, Done.eta, Late.eta, val_sl, val_nil] at hr); cbv) | exact trivial | rfl | refine Both.mk ?_ ?_ | (refine Imp.mk fun h => ?_; (try dsimp only at h); (try simp only [nc, Int.toNat_natCast, Bool.not_eq_true', Bool.not_eq_false', decide_eq_true_eq, decide_eq_false_iff_not, beq_iff_eq, beq_eq_false_iff_ne, ba_inj, bne_iff_ne, ne_eq, Bool.and_eq_true, Bool.or_eq_true, Bool.and_eq_false_iff, Bool.or_eq_false_iff, Int.not_le, Int.not_lt, Nat.not_le, Nat.not_lt] at h); (try simp only [nc] at h)) | refine Ob.mk ?_ ?_ | refine Chk.mk (by kernel_rfl) ?_ | refine Eq'.mk ?_ | (refine AllN.mk fun i hi => ?_; cbv) | (refine AllS.mk fun r hr => ?_; (try simp only [Dat.ok, Dat.dec, Leaf.ok, Leaf.val, Span.eta, Set.eta, Task.eta, Done.eta, Late.eta, val_sl] at hr); cbv)
  all_goals ((try dsimp only at *); (try simp only [nc, Int.toNat_natCast, Bool.not_eq_true', Bool.not_eq_false', decide_eq_true_eq, decide_eq_false_iff_not, beq_iff_eq, beq_eq_false_iff_ne, ba_inj, bne_iff_ne, ne_eq, Bool.and_eq_true, Bool.or_eq_true, Bool.and_eq_false_iff, Bool.or_eq_false_iff, Int.not_le, Int.not_lt, Nat.not_le, Nat.not_lt] at *); (try simp only [nc] at *))
  all_goals try simp only [Dat.dec, Leaf.val, Span.eta, Set.eta, Task.eta, Done.eta, Late.eta, val_sl] at *
  all_goals try (rename (_ = byV _ _) => hq3; subst hq3)
  all_goals have bz : ¬ tchkV l = 0 → byV 50 l = ([], tchkV l) := fun q => (by rw [byV, if_neg q])
  all_goals have by0 : tchkV l = 0 → byV 50 l = (byL 50 l, 0) := fun q => (by rw [byV, if_pos q])
  all_goals have bn : (byV 50 l).2 = tchkV l := (by by_cases q : tchkV l = 0; rw [by0 q, q]; rw [bz q])
  all_goals try (
    have hb1 : (byV 50 l).2 = 0 := by assumption
    have hT0 : tchkV l = 0 := bn.symm.trans hb1)
  all_goals try (
    have hb2 : ¬ (byV 50 l).2 = 0 := by assumption
    have hT1 : ¬ tchkV l = 0 := fun q => hb2 (bn.trans q)
    have hb3 := bz hT1
    refine fin0 _ _ _ ?_
    rw [findV, if_neg hT1, hb3])
  all_goals first
    | exact ⟨⟨rfl, fun i _ => Dat.hok _⟩, .inr (.inr rfl), hp1⟩
    | exact ⟨⟨trivial, rfl, fun i _ => Dat.hok _⟩, hp2⟩
    | (refine fin0 _ _ _ ?_; rw [findV, if_pos hT0, if_neg (by assumption)]; done)
    | skip
  all_goals have hT := tchk_iff.1 hT0
  all_goals have hb0 := by0 hT0
  all_goals clear bz by0 bn hb1
  all_goals simp only [hb0] at *
  all_goals first
    | exact ⟨by omega, by omega, by omega, by omega⟩
    | (unfold InR; omega)
    | skip
  have hfV : ∀ m, findF l s l.length (byL 50 l) (zerL l.length) = m → findV l s = (match m with | some o => (o, 0) | none => ([], 11)) := fun m h => by rw [findV, if_pos hT0, if_pos (by assumption), h]
  have hbl := byL_len 50 l
  refine LoopVC.frame [4, 5, 10, 11, 32, 39] (FdX l s) (fun x => [(10, .i .i64 fun _ => (x.p : Int) - 1)]) (fun x => [(2, vecO 3 fun _ => x.left), (3, .blk [.own 2 fun _ => x.left.length]), (4, vecO 3 fun _ => x.out)]) [2] (fun x => x.p) ⟨l.length, byL 50 l, zerL l.length, Nat.le_refl _, hbl, fun j hj => byL_mem hj, zerL_len _, rfl⟩ rfl (fun _ => rfl) ?_ ?_ fun ⟨p, left, out, h1, h2, h3, h4, hr⟩ => ?_
  · cbv
    repeat' first | (refine Stp.mk ?_; cbv) | (refine Gen.mk fun r hr => ?_; (try simp only [Dat.ok, Dat.dec, Leaf.ok, Leaf.val, Span.eta, Set.eta, Task.eta, Done.eta, Late.eta, val_sl, val_nil] at hr); cbv) | exact trivial | rfl | refine Both.mk ?_ ?_ | (refine Imp.mk fun h => ?_; (try dsimp only at h); (try simp only [nc, Int.toNat_natCast, Bool.not_eq_true', Bool.not_eq_false', decide_eq_true_eq, decide_eq_false_iff_not, beq_iff_eq, beq_eq_false_iff_ne, ba_inj, bne_iff_ne, ne_eq, Bool.and_eq_true, Bool.or_eq_true, Bool.and_eq_false_iff, Bool.or_eq_false_iff, Int.not_le, Int.not_lt, Nat.not_le, Nat.not_lt] at h); (try simp only [nc] at h)) | refine Ob.mk ?_ ?_ | refine Chk.mk (by kernel_rfl) ?_ | refine Eq'.mk ?_ | (refine AllN.mk fun i hi => ?_; cbv) | (refine AllS.mk fun r hr => ?_; (try simp only [Dat.ok, Dat.dec, Leaf.ok, Leaf.val, Span.eta, Set.eta, Task.eta, Done.eta, Late.eta, val_sl] at hr); cbv)
  · cbv
    repeat' first | (refine Stp.mk ?_; cbv) | (refine Gen.mk fun r hr => ?_; (try simp only [Dat.ok, Dat.dec, Leaf.ok, Leaf.val, Span.eta, Set.eta, Task.eta, Done.eta, Late.eta, val_sl, val_nil] at hr); cbv) | exact trivial | rfl | refine Both.mk ?_ ?_ | (refine Imp.mk fun h => ?_; (try dsimp only at h); (try simp only [nc, Int.toNat_natCast, Bool.not_eq_true', Bool.not_eq_false', decide_eq_true_eq, decide_eq_false_iff_not, beq_iff_eq, beq_eq_false_iff_ne, ba_inj, bne_iff_ne, ne_eq, Bool.and_eq_true, Bool.or_eq_true, Bool.and_eq_false_iff, Bool.or_eq_false_iff, Int.not_le, Int.not_lt, Nat.not_le, Nat.not_lt] at h); (try simp only [nc] at h)) | refine Ob.mk ?_ ?_ | refine Chk.mk (by kernel_rfl) ?_ | refine Eq'.mk ?_ | (refine AllN.mk fun i hi => ?_; cbv) | (refine AllS.mk fun r hr => ?_; (try simp only [Dat.ok, Dat.dec, Leaf.ok, Leaf.val, Span.eta, Set.eta, Task.eta, Done.eta, Late.eta, val_sl] at hr); cbv)
    all_goals ((try dsimp only at *); (try simp only [nc, Int.toNat_natCast, Bool.not_eq_true', Bool.not_eq_false', decide_eq_true_eq, decide_eq_false_iff_not, beq_iff_eq, beq_eq_false_iff_ne, ba_inj, bne_iff_ne, ne_eq, Bool.and_eq_true, Bool.or_eq_true, Bool.and_eq_false_iff, Bool.or_eq_false_iff, Int.not_le, Int.not_lt, Nat.not_le, Nat.not_lt] at *); (try simp only [nc] at *))
    all_goals first
      | rfl
      | exact (zerL_len _).symm
      | exact zerL_get.symm
      | fail
  · cbv
    repeat' first | (show Stp _; exfalso; first | omega | (exact h ‹_›) | (exact absurd ‹_› h) | (exact Bool.false_ne_true (h.symm.trans (show _ = true by assumption)))) | (refine Stp.mk ?_; cbv) | (refine Gen.mk fun r hr => ?_; (try simp only [Dat.ok, Dat.dec, Leaf.ok, Leaf.val, Span.eta, Set.eta, Task.eta, Done.eta, Late.eta, val_sl, val_nil] at hr); cbv) | exact trivial | rfl | refine Both.mk ?_ ?_ | (refine Imp.mk fun h => ?_; (try dsimp only at h); (try simp only [nc, Int.toNat_natCast, Bool.not_eq_true', Bool.not_eq_false', decide_eq_true_eq, decide_eq_false_iff_not, beq_iff_eq, beq_eq_false_iff_ne, ba_inj, bne_iff_ne, ne_eq, Bool.and_eq_true, Bool.or_eq_true, Bool.and_eq_false_iff, Bool.or_eq_false_iff, Int.not_le, Int.not_lt, Nat.not_le, Nat.not_lt] at h); (try simp only [nc] at h)) | refine Ob.mk ?_ ?_ | refine Chk.mk (by kernel_rfl) ?_ | refine Eq'.mk ?_ | (refine AllN.mk fun i hi => ?_; cbv) | (refine AllS.mk fun r hr => ?_; (try simp only [Dat.ok, Dat.dec, Leaf.ok, Leaf.val, Span.eta, Set.eta, Task.eta, Done.eta, Late.eta, val_sl] at hr); cbv)
    all_goals ((try dsimp only at *); (try simp only [nc, Int.toNat_natCast, Bool.not_eq_true', Bool.not_eq_false', decide_eq_true_eq, decide_eq_false_iff_not, beq_iff_eq, beq_eq_false_iff_ne, ba_inj, bne_iff_ne, ne_eq, Bool.and_eq_true, Bool.or_eq_true, Bool.and_eq_false_iff, Bool.or_eq_false_iff, Int.not_le, Int.not_lt, Nat.not_le, Nat.not_lt] at *); (try simp only [nc] at *))
    all_goals try rw [nc] at *
    all_goals try simp only [Dat.dec, Leaf.val, Span.eta, Set.eta, Task.eta, Done.eta, Late.eta, val_sl] at *
    all_goals have hq := pF_lt (p := okF l s left) (l := left) (k := 0)
    all_goals first
      | exact Nat.le_refl _
      | (have hp0 : p = 0 := by omega
         refine fin1 out _ _ _ _ _ _ _ (hfV (some out) ?_) h4.symm
         rw [hr, hp0, findF]
         done)
      | (have hp0 : 0 < p := by omega
         obtain ⟨p', rfl⟩ : ∃ p', p = p' + 1 := ⟨p - 1, by omega⟩
         refine fin0 _ _ _ (hfV none ?_)
         rw [hr, findF, if_pos (by assumption)]
         done)
      | skip
    all_goals obtain ⟨p', rfl⟩ : ∃ p', p = p' + 1 := ⟨p - 1, by omega⟩
    all_goals have hpp : ((p' + 1 : Nat) : Int) - 1 = p' := (by omega)
    all_goals try (
      have hq0 : 0 ≤ pF (okF l s left) 0 left := by assumption
      have hq1 := hq.2 hq0
      have hk1 : (pF (okF l s left) 0 left + 1).toNat = (pF (okF l s left) 0 left).toNat + 1 := by omega
      have hN : dlInt_N left (pF (okF l s left) 0 left) (pF (okF l s left) 0 left + 1) = (delU left (pF (okF l s left) 0 left).toNat ((pF (okF l s left) 0 left).toNat + 1)).length := by rw [← hk1]; rfl
      have hF : dlInt_F left (pF (okF l s left) 0 left) (pF (okF l s left) 0 left + 1) = delU left (pF (okF l s left) 0 left).toNat ((pF (okF l s left) 0 left).toNat + 1) := by rw [← hk1]; rfl
      have hdl : (delU left (pF (okF l s left) 0 left).toNat ((pF (okF l s left) 0 left).toNat + 1)).length = p' := by rw [delU_len (by omega) (by omega)]; omega)
    all_goals first
      | omega
      | exact ⟨by omega, by omega⟩
      | (unfold InR; omega)
      | exact ⟨trivial, ⟨rfl, fun i _ => Dat.hok _⟩, ⟨rfl, fun i _ => Dat.hok _⟩, ⟨rfl, fun i _ => Dat.hok _⟩, ⟨trivial, rfl, fun i _ => Dat.hok _⟩, ⟨by omega, h3, hp2⟩, by omega, h3⟩
      | exact ⟨rfl, trivial, fun i _ => Dat.hok _, by omega, by omega, by omega, by omega, by omega⟩
      | skip
    · rename (_ = left) => hrl
      have hrl2 := hrl.symm
      clear hrl
      subst hrl2
      have hlt : ¬ pF (okF l s left) 0 left < 0 := by omega
      rw [findF, if_neg hlt] at hr
      refine ⟨⟨p', _, _, by omega, hdl, fun j hj => h3 j (delU_mem hj), by rw [List.length_set]; exact h4, hr⟩, ?_, ?_, rfl, show p' < p' + 1 by omega⟩
      · cbv
        repeat' first | (refine Stp.mk ?_; cbv) | (refine Gen.mk fun r hr => ?_; (try simp only [Dat.ok, Dat.dec, Leaf.ok, Leaf.val, Span.eta, Set.eta, Task.eta, Done.eta, Late.eta, val_sl, val_nil] at hr); cbv) | exact trivial | rfl | refine Both.mk ?_ ?_ | (refine Imp.mk fun h => ?_; (try dsimp only at h); (try simp only [nc, Int.toNat_natCast, Bool.not_eq_true', Bool.not_eq_false', decide_eq_true_eq, decide_eq_false_iff_not, beq_iff_eq, beq_eq_false_iff_ne, ba_inj, bne_iff_ne, ne_eq, Bool.and_eq_true, Bool.or_eq_true, Bool.and_eq_false_iff, Bool.or_eq_false_iff, Int.not_le, Int.not_lt, Nat.not_le, Nat.not_lt] at h); (try simp only [nc] at h)) | refine Ob.mk ?_ ?_ | refine Chk.mk (by kernel_rfl) ?_ | refine Eq'.mk ?_ | (refine AllN.mk fun i hi => ?_; cbv) | (refine AllS.mk fun r hr => ?_; (try simp only [Dat.ok, Dat.dec, Leaf.ok, Leaf.val, Span.eta, Set.eta, Task.eta, Done.eta, Late.eta, val_sl] at hr); cbv)
        all_goals first | rfl | (show ((p' + 1 : Nat) : Int) - 1 - 1 = (p' : Int) - 1; omega) | fail
      · cbv
        repeat' first | (refine Stp.mk ?_; cbv) | (refine Gen.mk fun r hr => ?_; (try simp only [Dat.ok, Dat.dec, Leaf.ok, Leaf.val, Span.eta, Set.eta, Task.eta, Done.eta, Late.eta, val_sl, val_nil] at hr); cbv) | exact trivial | rfl | refine Both.mk ?_ ?_ | (refine Imp.mk fun h => ?_; (try dsimp only at h); (try simp only [nc, Int.toNat_natCast, Bool.not_eq_true', Bool.not_eq_false', decide_eq_true_eq, decide_eq_false_iff_not, beq_iff_eq, beq_eq_false_iff_ne, ba_inj, bne_iff_ne, ne_eq, Bool.and_eq_true, Bool.or_eq_true, Bool.and_eq_false_iff, Bool.or_eq_false_iff, Int.not_le, Int.not_lt, Nat.not_le, Nat.not_lt] at h); (try simp only [nc] at h)) | refine Ob.mk ?_ ?_ | refine Chk.mk (by kernel_rfl) ?_ | refine Eq'.mk ?_ | (refine AllN.mk fun i hi => ?_; cbv) | (refine AllS.mk fun r hr => ?_; (try simp only [Dat.ok, Dat.dec, Leaf.ok, Leaf.val, Span.eta, Set.eta, Task.eta, Done.eta, Late.eta, val_sl] at hr); cbv)
        all_goals ((try dsimp only at *); (try simp only [nc, Int.toNat_natCast, Bool.not_eq_true', Bool.not_eq_false', decide_eq_true_eq, decide_eq_false_iff_not, beq_iff_eq, beq_eq_false_iff_ne, ba_inj, bne_iff_ne, ne_eq, Bool.and_eq_true, Bool.or_eq_true, Bool.and_eq_false_iff, Bool.or_eq_false_iff, Int.not_le, Int.not_lt, Nat.not_le, Nat.not_lt] at *); (try simp only [nc] at *))
        all_goals first
          | exact congrArg List.length hF
          | exact hN
          | (rw [hF]; done)
          | (rw [List.length_set]; done)
          | (rw [show (((p' + 1 : Nat) : Int) - 1).toNat = p' by omega]; exact (gd_set _ _ _ _ _ (by assumption)).symm)
          | fail
theorem find_ok : PcOk Try.prog 27 (find_C) := fun A K h => by
  unfold find_C at h
  split at h
  · rename_i l s
    cases h with
    | mk h1 h2 =>
      obtain ⟨g0, g1, hp⟩ := h1
      refine FnOk.pre ?_ (A' := [Leaf.av fun _ => (Leaf.val l : (List Task)), .agg (Dat.enc fun _ => (Dat.dec s : Set))]) (.mk (Leaf.hle _ g0) (.mk (Dat.hle _ g1) (trivial)))
      exact FnOk.out (K := fun r H _ => K r H) (find_vc (Leaf.val l) (Dat.dec s) hp) rfl h2.out
  · cases h

end Go.Proofs.Ytabchkekhpmpiaa
