/- reply.Table, walked; replyLives. -/
import Derived.Test.YtcnfdohlgmipoaaReply
set_option linter.all false
namespace Go.Proofs.Ytcnfdohlgmipoaa
open Go Go.Abs

def tabL (l : List Task) (s : Set) : List Int := lst l.length fun i => (repV l (i : Int) s).1
def tabV (l : List Task) (s : Set) : List Int × Int := if bothS l s = 0 then (tabL l s, 0) else ([], bothS l s)
theorem tab_len (l : List Task) (s : Set) : (tabL l s).length = l.length := lst_len _ _
theorem tab_get {l : List Task} {s : Set} {i : Nat} (h : i < l.length) : (tabL l s).getD i Dat.d0 = (repV l (i : Int) s).1 := lst_get h
structure TbX (l : List Task) where
  k : Nat
  hk : k ≤ l.length
def tab_R (r : Th ((List Int) × Int)) : AV := .tup [.own 0 fun _ => (r ()).1.length, .i .i64 fun _ => (r ()).2]
def tab_H (r : Th ((List Int) × Int)) : Hp := [vecO 3 fun _ => (r ()).1]
def tab_P (l : (List Task)) (s : Set) : Prop := l.length ≤ 9223372036854775807 ∧ s.spans.length ≤ 9223372036854775807
def tab_C : PC := fun A K => match A with
  | [l, .agg s] => Ob (fun _ => Leaf.ok (List Task) l ∧ Dat.ok Set s ∧ tab_P (Leaf.val l) (Dat.dec s)) (Gen (α := (List Int) × Int) (fun _ => tabV (Leaf.val l) (Dat.dec s)) fun r => K (tab_R fun _ => r) (tab_H fun _ => r))
  | _ => Bad 1002
noncomputable def cTb : FuncId → Con := fun f => match f with
  | 18 => pureCon (detPC bothR_D)
  | 19 => pureCon (detPC rep_D)
  | _ => fun _ _ _ => Bad 1001
theorem cTb_ok : ConOk Try.prog cTb := fun f A H K h => by
  unfold cTb at h
  split at h
  · exact ⟨⟨Try.f18, Try.func18, by kernel_rfl, by kernel_rfl⟩, pureCon_ok bothR_ok h⟩
  · exact ⟨⟨Try.f19, Try.func19, by kernel_rfl, by kernel_rfl⟩, pureCon_ok rep_ok h⟩
  · cases h
set_option maxRecDepth 100000 in
set_option maxHeartbeats 4000000 in
theorem tab_vc (l : (List Task)) (s : Set) (hp : tab_P l s) : FnOk Try.prog 14 [Leaf.av fun _ => l, .agg (Dat.enc fun _ => s)] [] (outA (tab_R fun _ => tabV l s) (tab_H fun _ => tabV l s)) := by
  refine fn_ok envOk zl cTb_ok noDraws_ok (keep := [0, 1, 3, 4, 5, 6, 7, 8, 9, 15, 18, 19, 20]) Try.func14 rfl ?_
  obtain ⟨p1, p2⟩ : l.length ≤ 9223372036854775807 ∧ s.spans.length ≤ 9223372036854775807 := hp
  have fin0 : ∀ (e : Int) kl H, tabV l s = ([], e) → outA (tab_R fun _ => tabV l s) (tab_H fun _ => tabV l s) (.tup [.nil, .i .i64 fun _ => e]) H kl := fun e kl H h => by
    rw [h]
    cbv
    repeat' first | (refine Stp.mk ?_; cbv) | (refine Gen.mk fun r hr => ?_; (try simp only [Dat.ok, Dat.dec, Leaf.ok, Leaf.val, Span.eta, Set.eta, Task.eta, Done.eta, job.eta, Late.eta, val_sl, val_nil] at hr); cbv) | exact trivial | rfl | refine Both.mk ?_ ?_ | (refine Imp.mk fun h => ?_; (try dsimp only at h); (try simp only [nc, Int.toNat_natCast, ne_eq, zz] at h); (try simp only [nc] at h)) | refine Ob.mk ?_ ?_ | refine Chk.mk (by kernel_rfl) ?_ | refine Eq'.mk ?_ | (refine AllN.mk fun i hi => ?_; cbv) | (refine AllC.mk fun c hc hcm => ?_; (try dsimp only at hc); cbv) | (refine AllS.mk fun r hr => ?_; (try simp only [Dat.ok, Dat.dec, Leaf.ok, Leaf.val, Span.eta, Set.eta, Task.eta, Done.eta, job.eta, Late.eta, val_sl] at hr); cbv)
    all_goals first | rfl | (exfalso; omega)
  have fin1 : ∀ d (n : Nat) (e : Int) kl x H, tabV l s = (d, e) → n = d.length → outA (tab_R fun _ => tabV l s) (tab_H fun _ => tabV l s) (.tup [.own 1 fun _ => n, .i .i64 fun _ => e]) (x :: vecO 3 (fun _ => d) :: H) kl := fun d n e kl x H h hn => by
    subst hn
    rw [h]
    cbv
    repeat' first | (refine Stp.mk ?_; cbv) | (refine Gen.mk fun r hr => ?_; (try simp only [Dat.ok, Dat.dec, Leaf.ok, Leaf.val, Span.eta, Set.eta, Task.eta, Done.eta, job.eta, Late.eta, val_sl, val_nil] at hr); cbv) | exact trivial | rfl | refine Both.mk ?_ ?_ | (refine Imp.mk fun h => ?_; (try dsimp only at h); (try simp only [nc, Int.toNat_natCast, ne_eq, zz] at h); (try simp only [nc] at h)) | refine Ob.mk ?_ ?_ | refine Chk.mk (by kernel_rfl) ?_ | refine Eq'.mk ?_ | (refine AllN.mk fun i hi => ?_; cbv) | (refine AllC.mk fun c hc hcm => ?_; (try dsimp only at hc); cbv) | (refine AllS.mk fun r hr => ?_; (try simp only [Dat.ok, Dat.dec, Leaf.ok, Leaf.val, Span.eta, Set.eta, Task.eta, Done.eta, job.eta, Late.eta, val_sl] at hr); cbv)
  generalize outA (tab_R fun _ => tabV l s) (tab_H fun _ => tabV l s) = K at fin0 fin1 ⊢
  cbv
  repeat' first | (show Stp _; exfalso; first | omega | (exact h ‹_›) | (exact absurd ‹_› h) | (exact Bool.false_ne_true (h.symm.trans (show _ = true by assumption)))) | (refine Stp.mk ?_; cbv) | (refine Gen.mk fun r hr => ?_; (try simp only [Dat.ok, Dat.dec, Leaf.ok, Leaf.val, Span.eta, Set.eta, Task.eta, Done.eta, job.eta, Late.eta, val_sl, val_nil] at hr); cbv) | exact trivial | rfl | refine Both.mk ?_ ?_ | (refine Imp.mk fun h => ?_; (try dsimp only at h); (try simp only [nc, Int.toNat_natCast, ne_eq, zz] at h); (try simp only [nc] at h)) | refine Ob.mk ?_ ?_ | refine Chk.mk (by kernel_rfl) ?_ | refine Eq'.mk ?_ | (refine AllN.mk fun i hi => ?_; cbv) | (refine AllC.mk fun c hc hcm => ?_; (try dsimp only at hc); cbv) | (refine AllS.mk fun r hr => ?_; (try simp only [Dat.ok, Dat.dec, Leaf.ok, Leaf.val, Span.eta, Set.eta, Task.eta, Done.eta, job.eta, Late.eta, val_sl] at hr); cbv)
  all_goals ((try dsimp only at *); (try simp only [nc, Int.toNat_natCast, ne_eq, zz] at *); (try simp only [nc] at *))
  all_goals try simp only [Dat.dec, Leaf.val, Span.eta, Set.eta, Task.eta, Done.eta, job.eta, Late.eta, val_sl] at *
  all_goals first
    | exact ⟨⟨rfl, fun i _ => Dat.hok _⟩, ⟨trivial, rfl, fun i _ => Dat.hok _⟩, show _ ≤ _ by omega, show _ ≤ _ by omega⟩
    | (refine fin0 _ _ _ ?_
       rw [tabV, if_neg (by assumption)])
    | skip
  have hb := both_iff.1 (by assumption : bothS l s = 0)
  have hc := tchk_iff.1 hb.1
  refine LoopVC.frame [7, 8, 9, 19, 20] (TbX l) (fun x => [(19, .i .i64 fun _ => x.k), (7, .own 1 fun _ => x.k)]) (fun x => [(1, vecO 3 fun _ => (tabL l s).take x.k)]) [1] (fun x => l.length - x.k) ⟨0, Nat.zero_le _⟩ rfl (fun _ => rfl) ?_ ?_ fun ⟨k, hk⟩ => ?_
  iterate 2
    · cbv
      repeat' first | (refine Stp.mk ?_; cbv) | (refine Gen.mk fun r hr => ?_; (try simp only [Dat.ok, Dat.dec, Leaf.ok, Leaf.val, Span.eta, Set.eta, Task.eta, Done.eta, job.eta, Late.eta, val_sl, val_nil] at hr); cbv) | exact trivial | rfl | refine Both.mk ?_ ?_ | (refine Imp.mk fun h => ?_; (try dsimp only at h); (try simp only [nc, Int.toNat_natCast, ne_eq, zz] at h); (try simp only [nc] at h)) | refine Ob.mk ?_ ?_ | refine Chk.mk (by kernel_rfl) ?_ | refine Eq'.mk ?_ | (refine AllN.mk fun i hi => ?_; cbv) | (refine AllC.mk fun c hc hcm => ?_; (try dsimp only at hc); cbv) | (refine AllS.mk fun r hr => ?_; (try simp only [Dat.ok, Dat.dec, Leaf.ok, Leaf.val, Span.eta, Set.eta, Task.eta, Done.eta, job.eta, Late.eta, val_sl] at hr); cbv)
  · have htl := tab_len l s
    have hlk : ((tabL l s).take k).length = k := by rw [List.length_take]; omega
    cbv
    repeat' first | (show Stp _; exfalso; first | omega | (exact h ‹_›) | (exact absurd ‹_› h) | (exact Bool.false_ne_true (h.symm.trans (show _ = true by assumption)))) | (refine Stp.mk ?_; cbv) | (refine Gen.mk fun r hr => ?_; (try simp only [Dat.ok, Dat.dec, Leaf.ok, Leaf.val, Span.eta, Set.eta, Task.eta, Done.eta, job.eta, Late.eta, val_sl, val_nil] at hr); cbv) | exact trivial | rfl | refine Both.mk ?_ ?_ | (refine Imp.mk fun h => ?_; (try dsimp only at h); (try simp only [nc, Int.toNat_natCast, ne_eq, zz] at h); (try simp only [nc] at h)) | refine Ob.mk ?_ ?_ | refine Chk.mk (by kernel_rfl) ?_ | refine Eq'.mk ?_ | (refine AllN.mk fun i hi => ?_; cbv) | (refine AllC.mk fun c hc hcm => ?_; (try dsimp only at hc); cbv) | (refine AllS.mk fun r hr => ?_; (try simp only [Dat.ok, Dat.dec, Leaf.ok, Leaf.val, Span.eta, Set.eta, Task.eta, Done.eta, job.eta, Late.eta, val_sl] at hr); cbv)
    all_goals ((try dsimp only at *); (try simp only [nc, Int.toNat_natCast, ne_eq, zz] at *); (try simp only [nc] at *))
    all_goals try rw [nc] at *
    all_goals try simp only [Dat.dec, Leaf.val, Span.eta, Set.eta, Task.eta, Done.eta, job.eta, Late.eta, val_sl] at *
    all_goals first
      | omega
      | (unfold InR; omega)
      | exact ⟨by omega, trivial, by omega, by omega⟩
      | exact ⟨⟨rfl, fun i _ => Dat.hok _⟩, ⟨trivial, rfl, fun i _ => Dat.hok _⟩, hc.1, hc.2, by omega, by omega, hb.2⟩
      | (have hk2 : k < l.length := by omega
         refine ⟨⟨k + 1, by omega⟩, ?_, ?_, rfl, by (try dsimp only); omega⟩
         · cbv
           repeat' first | (refine Stp.mk ?_; cbv) | (refine Gen.mk fun r hr => ?_; (try simp only [Dat.ok, Dat.dec, Leaf.ok, Leaf.val, Span.eta, Set.eta, Task.eta, Done.eta, job.eta, Late.eta, val_sl, val_nil] at hr); cbv) | exact trivial | rfl | refine Both.mk ?_ ?_ | (refine Imp.mk fun h => ?_; (try dsimp only at h); (try simp only [nc, Int.toNat_natCast, ne_eq, zz] at h); (try simp only [nc] at h)) | refine Ob.mk ?_ ?_ | refine Chk.mk (by kernel_rfl) ?_ | refine Eq'.mk ?_ | (refine AllN.mk fun i hi => ?_; cbv) | (refine AllC.mk fun c hc hcm => ?_; (try dsimp only at hc); cbv) | (refine AllS.mk fun r hr => ?_; (try simp only [Dat.ok, Dat.dec, Leaf.ok, Leaf.val, Span.eta, Set.eta, Task.eta, Done.eta, job.eta, Late.eta, val_sl] at hr); cbv)
         · cbv
           repeat' first | (refine Stp.mk ?_; cbv) | (refine Gen.mk fun r hr => ?_; (try simp only [Dat.ok, Dat.dec, Leaf.ok, Leaf.val, Span.eta, Set.eta, Task.eta, Done.eta, job.eta, Late.eta, val_sl, val_nil] at hr); cbv) | exact trivial | rfl | refine Both.mk ?_ ?_ | (refine Imp.mk fun h => ?_; (try dsimp only at h); (try simp only [nc, Int.toNat_natCast, ne_eq, zz] at h); (try simp only [nc] at h)) | refine Ob.mk ?_ ?_ | refine Chk.mk (by kernel_rfl) ?_ | refine Eq'.mk ?_ | (refine AllN.mk fun i hi => ?_; cbv) | (refine AllC.mk fun c hc hcm => ?_; (try dsimp only at hc); cbv) | (refine AllS.mk fun r hr => ?_; (try simp only [Dat.ok, Dat.dec, Leaf.ok, Leaf.val, Span.eta, Set.eta, Task.eta, Done.eta, job.eta, Late.eta, val_sl] at hr); cbv)
           all_goals ((try dsimp only at *); (try simp only [nc, Int.toNat_natCast, ne_eq, zz] at *); (try simp only [nc] at *))
           all_goals first
             | (rw [List.length_take]; omega)
             | (rw [take_snoc Dat.d0 (by omega), tab_get hk2]
                have e := gd_snoc ((tabL l s).take k) (repV l (k : Int) s).1 Dat.d0 i (by omega)
                rw [hlk] at e
                exact e.symm)
             | fail)
      | (rw [List.take_of_length_le (by omega)] at *
         refine fin1 _ _ _ _ _ _ (by rw [tabV, if_pos (by assumption)]) (by omega))
      | fail
theorem tab_ok : PcOk Try.prog 14 (tab_C) := fun A K h => by
  unfold tab_C at h
  split at h
  · rename_i l s
    cases h with
    | mk h1 h2 =>
      obtain ⟨g0, g1, hp⟩ := h1
      refine FnOk.pre ?_ (A' := [Leaf.av fun _ => (Leaf.val l : (List Task)), .agg (Dat.enc fun _ => (Dat.dec s : Set))]) (.mk (Leaf.hle _ g0) (.mk (Dat.hle _ g1) (trivial)))
      exact FnOk.out (K := fun r H _ => K r H) (tab_vc (Leaf.val l) (Dat.dec s) hp) rfl h2.out
  · cases h
def rlA : List Task := [⟨1, 4, 4⟩, ⟨4, 10, 10⟩]
def rsA : Set := ⟨1, [⟨0, 1⟩]⟩
theorem rl_tab : tabV rlA rsA = ([1, 6], 0) := by decide
structure eqInt_X (l m : List Int) where
  k : Nat
  hk : k ≤ l.length
  hv : ∀ j, j < k → l.getD j Dat.d0 = m.getD j Dat.d0
def eqInt_R (r : Th (Bool)) : AV := .b fun _ => (r ())
def eqInt_S (l : (List Int)) (m : (List Int)) : Bool := decide (l = m)
def eqInt_P (l : (List Int)) (m : (List Int)) : Prop := l.length ≤ 9223372036854775807
def eqInt_D : Det := fun A => match A with
  | [l, m] => some (fun _ => Leaf.ok (List Int) l ∧ Leaf.ok (List Int) m ∧ eqInt_P (Leaf.val l) (Leaf.val m), eqInt_R fun _ => eqInt_S (Leaf.val l) (Leaf.val m))
  | _ => none
set_option maxRecDepth 100000 in
set_option maxHeartbeats 4000000 in
theorem eqInt_vc (l : (List Int)) (m : (List Int)) (hp : eqInt_P l m) : FnOk Try.prog 20 [Leaf.av fun _ => l, Leaf.av fun _ => m] [] (outA (eqInt_R fun _ => eqInt_S l m) []) := by
  refine fn_ok envOk zl noCon_ok (draws_ok envOk zl noDet_ok mixed) (keep := [0, 1, 4, 5, 10, 12, 13, 14, 24]) Try.func20 rfl ?_
  have hp' : l.length ≤ 9223372036854775807 := hp
  have fin : ∀ (b : Bool) H kl, b = decide (l = m) → outA (eqInt_R fun _ => eqInt_S l m) [] (.bc b) H kl := by
    rintro b H kl rfl
    cbv
    repeat' first | (refine Stp.mk ?_; cbv) | (refine Gen.mk fun r hr => ?_; (try simp only [Dat.ok, Dat.dec, Leaf.ok, Leaf.val, Span.eta, Set.eta, Task.eta, Done.eta, job.eta, Late.eta, val_sl, val_nil] at hr); cbv) | exact trivial | rfl | refine Both.mk ?_ ?_ | (refine Imp.mk fun h => ?_; (try dsimp only at h); (try simp only [nc, Int.toNat_natCast, ne_eq, zz] at h); (try simp only [nc] at h)) | refine Ob.mk ?_ ?_ | refine Chk.mk (by kernel_rfl) ?_ | refine Eq'.mk ?_ | (refine AllN.mk fun i hi => ?_; cbv) | (refine AllC.mk fun c hc hcm => ?_; (try dsimp only at hc); cbv) | (refine AllS.mk fun r hr => ?_; (try simp only [Dat.ok, Dat.dec, Leaf.ok, Leaf.val, Span.eta, Set.eta, Task.eta, Done.eta, job.eta, Late.eta, val_sl] at hr); cbv)
  generalize outA (eqInt_R fun _ => eqInt_S l m) [] = K at fin
  cbv
  refine Both.mk (Imp.mk fun h1 => ?_) (Imp.mk fun h1 => ?_)
  all_goals (refine Stp.mk ?_; cbv; (try dsimp only at h1); (try simp only [nc, Int.toNat_natCast, ne_eq, zz] at h1); (try simp only [nc] at h1))
  · refine fin _ _ _ ?_
    exact (decide_eq_false (fun h => by subst h; omega)).symm
  · have hlen : l.length = m.length := by omega
    refine LoopVC.frame [4, 5, 13, 14, 24] (eqInt_X l m) (fun x => [(13, .i .i64 fun _ => x.k)]) (fun _ => []) [] (fun x => l.length - x.k)
      ⟨0, Nat.zero_le _, fun j hj => absurd hj (Nat.not_lt_zero _)⟩ rfl (fun _ => rfl) ?_ ?_ fun ⟨k, hk, hv⟩ => ?_
    · cbv
      repeat' first | (refine Stp.mk ?_; cbv) | (refine Gen.mk fun r hr => ?_; (try simp only [Dat.ok, Dat.dec, Leaf.ok, Leaf.val, Span.eta, Set.eta, Task.eta, Done.eta, job.eta, Late.eta, val_sl, val_nil] at hr); cbv) | exact trivial | rfl | refine Both.mk ?_ ?_ | (refine Imp.mk fun h => ?_; (try dsimp only at h); (try simp only [nc, Int.toNat_natCast, ne_eq, zz] at h); (try simp only [nc] at h)) | refine Ob.mk ?_ ?_ | refine Chk.mk (by kernel_rfl) ?_ | refine Eq'.mk ?_ | (refine AllN.mk fun i hi => ?_; cbv) | (refine AllC.mk fun c hc hcm => ?_; (try dsimp only at hc); cbv) | (refine AllS.mk fun r hr => ?_; (try simp only [Dat.ok, Dat.dec, Leaf.ok, Leaf.val, Span.eta, Set.eta, Task.eta, Done.eta, job.eta, Late.eta, val_sl] at hr); cbv)
    · cbv
    · cbv
      repeat' first | (refine Stp.mk ?_; cbv) | (refine Gen.mk fun r hr => ?_; (try simp only [Dat.ok, Dat.dec, Leaf.ok, Leaf.val, Span.eta, Set.eta, Task.eta, Done.eta, job.eta, Late.eta, val_sl, val_nil] at hr); cbv) | exact trivial | rfl | refine Both.mk ?_ ?_ | (refine Imp.mk fun h => ?_; (try dsimp only at h); (try simp only [nc, Int.toNat_natCast, ne_eq, zz] at h); (try simp only [nc] at h)) | refine Ob.mk ?_ ?_ | refine Chk.mk (by kernel_rfl) ?_ | refine Eq'.mk ?_ | (refine AllN.mk fun i hi => ?_; cbv) | (refine AllC.mk fun c hc hcm => ?_; (try dsimp only at hc); cbv) | (refine AllS.mk fun r hr => ?_; (try simp only [Dat.ok, Dat.dec, Leaf.ok, Leaf.val, Span.eta, Set.eta, Task.eta, Done.eta, job.eta, Late.eta, val_sl] at hr); cbv)
      all_goals ((try dsimp only at *); (try simp only [nc, Int.toNat_natCast, ne_eq, zz] at *); (try simp only [nc] at *))
      all_goals first
        | omega
        | (unfold InR; omega)
        | (refine fin _ _ _ (decide_eq_true ?_).symm
           apply List.ext_getElem hlen
           intro i h1 h2
           have := hv i (by omega)
           simpa [h1, h2] using this)
        | (refine fin _ _ _ (decide_eq_false fun h => ?_).symm
           subst h
           simp_all; done)
        | skip
      all_goals (
        refine ⟨⟨k + 1, by omega, fun j hj => ?_⟩, ?_, trivial, rfl, by (try dsimp only); omega⟩
        · rcases Nat.lt_succ_iff_lt_or_eq.1 hj with hj | rfl
          · exact hv j hj
          · first | assumption | (generalize l.getD j Dat.d0 = a at *; generalize m.getD j Dat.d0 = b at *; cases a; cases b; simp_all; done)
        · cbv
          repeat' first | (refine Stp.mk ?_; cbv) | (refine Gen.mk fun r hr => ?_; (try simp only [Dat.ok, Dat.dec, Leaf.ok, Leaf.val, Span.eta, Set.eta, Task.eta, Done.eta, job.eta, Late.eta, val_sl, val_nil] at hr); cbv) | exact trivial | rfl | refine Both.mk ?_ ?_ | (refine Imp.mk fun h => ?_; (try dsimp only at h); (try simp only [nc, Int.toNat_natCast, ne_eq, zz] at h); (try simp only [nc] at h)) | refine Ob.mk ?_ ?_ | refine Chk.mk (by kernel_rfl) ?_ | refine Eq'.mk ?_ | (refine AllN.mk fun i hi => ?_; cbv) | (refine AllC.mk fun c hc hcm => ?_; (try dsimp only at hc); cbv) | (refine AllS.mk fun r hr => ?_; (try simp only [Dat.ok, Dat.dec, Leaf.ok, Leaf.val, Span.eta, Set.eta, Task.eta, Done.eta, job.eta, Late.eta, val_sl] at hr); cbv))
theorem eqInt_ok : PcOk Try.prog 20 (detPC eqInt_D) := det_okA fun A p r h hp0 => by
  unfold eqInt_D at h
  split at h
  · rename_i l m
    cases h
    obtain ⟨g0, g1, hp⟩ := hp0
    exact ⟨rfl, FnOk.pre (A' := [Leaf.av fun _ => (Leaf.val l : (List Int)), Leaf.av fun _ => (Leaf.val m : (List Int))]) (eqInt_vc (Leaf.val l) (Leaf.val m) hp) (.mk (Leaf.hle _ g0) (.mk (Leaf.hle _ g1) (trivial)))⟩
  · cases h
noncomputable def cRL : FuncId → Con := fun f => match f with
  | 14 => pureCon tab_C
  | 20 => pureCon (detPC eqInt_D)
  | _ => fun _ _ _ => Bad 1001
theorem cRL_ok : ConOk Try.prog cRL := fun f A H K h => by
  unfold cRL at h
  split at h
  · exact ⟨⟨Try.f14, Try.func14, by kernel_rfl, by kernel_rfl⟩, pureCon_ok tab_ok h⟩
  · exact ⟨⟨Try.f20, Try.func20, by kernel_rfl, by kernel_rfl⟩, pureCon_ok eqInt_ok h⟩
  · cases h
def rlives_R (r : Th (Bool)) : AV := .bc true
def rlives_D : Det := fun A => match A with
  | [] => some (fun _ => True, rlives_R fun _ => true )
  | _ => none
set_option maxRecDepth 100000 in
set_option maxHeartbeats 4000000 in
theorem rlives_vc  : FnOk Try.prog 8 [] [] (outA (rlives_R fun _ => true ) []) := by
  refine fn_ok envOk zl cRL_ok noDraws_ok (keep := [0, 1, 2, 3]) Try.func8 rfl ?_
  cbv
  repeat' first | (show Stp _; exfalso; first | omega | (exact h ‹_›) | (exact absurd ‹_› h) | (exact Bool.false_ne_true (h.symm.trans (show _ = true by assumption)))) | (refine Stp.mk ?_; cbv) | (refine Gen.mk fun r hr => ?_; (try simp only [Dat.ok, Dat.dec, Leaf.ok, Leaf.val, Span.eta, Set.eta, Task.eta, Done.eta, job.eta, Late.eta, val_sl, val_nil] at hr); cbv) | exact trivial | rfl | refine Both.mk ?_ ?_ | (refine Imp.mk fun h => ?_; (try dsimp only at h); (try simp only [nc, Int.toNat_natCast, ne_eq, zz] at h); (try simp only [nc] at h)) | refine Ob.mk ?_ ?_ | refine Chk.mk (by kernel_rfl) ?_ | refine Eq'.mk ?_ | (refine AllN.mk fun i hi => ?_; cbv) | (refine AllC.mk fun c hc hcm => ?_; (try dsimp only at hc); cbv) | (refine AllS.mk fun r hr => ?_; (try simp only [Dat.ok, Dat.dec, Leaf.ok, Leaf.val, Span.eta, Set.eta, Task.eta, Done.eta, job.eta, Late.eta, val_sl] at hr); cbv)
  all_goals ((try dsimp only at *); (try simp only [nc, Int.toNat_natCast, ne_eq, zz] at *); (try simp only [nc] at *))
  all_goals have v1 : (Leaf.val (.sl 3 (fun _ => 2) (rowN 3 [.i .i64 fun _ => 1, .i .i64 fun _ => 4, .i .i64 fun _ => 4, .i .i64 fun _ => 4, .i .i64 fun _ => 10, .i .i64 fun _ => 10])) : List Task) = rlA := rfl
  all_goals have v2 : (Dat.dec [.i .i64 fun _ => 1, .sl 2 (fun _ => 1) fun _ => [.i .i64 fun _ => 0, .i .i64 fun _ => 1]] : Set) = rsA := rfl
  all_goals try (have hq : r = ([1, 6], 0) := hr.trans rl_tab
                 clear hr
                 subst hq)
  all_goals first
    | exact Nat.le_refl _
    | exact ⟨⟨rfl, fun i (hi : i < 2) => by rcases i with _ | _ | i; all_goals first | exact ⟨trivial, trivial, trivial⟩ | omega⟩, ⟨trivial, rfl, fun i _ => ⟨trivial, trivial⟩⟩, show (2 : Nat) ≤ _ by decide, show (1 : Nat) ≤ _ by decide⟩
    | exact ⟨⟨rfl, fun i _ => Dat.hok _⟩, ⟨rfl, fun i (hi : i < 2) => by rcases i with _ | _ | i; all_goals first | trivial | omega⟩, show (2 : Nat) ≤ _ by decide⟩
    | rfl
    | exact ⟨⟨rfl, fun i _ => Dat.hok _⟩, ⟨rfl, fun i (hi : i < 2) => by rcases i with _ | _ | i; all_goals first | trivial | omega⟩, show (2 : Nat) ≤ _ by decide, show (2 : Nat) ≤ _ by decide⟩
    | (exfalso; exact h rfl)
    | fail
theorem rlives_ok : PcOk Try.prog 8 (detPC rlives_D) := det_okA fun A p r h hp0 => by
  unfold rlives_D at h
  split at h
  · cases h
    exact ⟨rfl, FnOk.pre (A' := []) (rlives_vc ) (trivial)⟩
  · cases h

end Go.Proofs.Ytcnfdohlgmipoaa
