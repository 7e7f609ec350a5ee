/- The program's functions, walked: Not. -/
import Derived.Test.YtkpkfkbbkcecmaaSpanP
set_option linter.all false
namespace Go.Proofs.Ytkpkfkbbkcecmaa
open Go Go.Abs
def notS (size : Int) : Int → List Span → List Span
  | a, [] => if a < size then [⟨a, size⟩] else []
  | a, x :: r => if a < x.frm then ⟨a, x.frm⟩ :: notS size x.to r else notS size x.to r
def notV (s : Set) : Set := ⟨s.size, notS s.size 0 s.spans⟩
def notC_R (r : Th (Set)) : AV := .agg [.i .i64 fun _ => (r ()).size, .own 0 fun _ => (r ()).spans.length]
def notC_H (r : Th (Set)) : Hp := [vecO 39 fun _ => (r ()).spans]
def notC_P (s : Set) : Prop := s.spans.length ≤ 1000
def notC_C : PC := fun A K => match A with
  | [.agg s] => Ob (fun _ => Dat.ok Set s ∧ notC_P (Dat.dec s)) (Gen (α := Set) (fun _ => notV (Dat.dec s)) fun r => K (notC_R fun _ => r) (notC_H fun _ => r))
  | _ => Bad 1002
structure NoX (s : Set) where
  k : Nat
  a : Int
  out : List Span
  hk : k ≤ s.spans.length
  ho : out.length ≤ k
  hr : notS s.size 0 s.spans = out ++ notS s.size a (s.spans.drop k)
set_option maxRecDepth 100000 in
set_option maxHeartbeats 4000000 in
theorem notC_vc (s : Set) (hp : notC_P s) : FnOk Try.prog 33 [.agg (Dat.enc fun _ => s)] [] (outA (notC_R fun _ => notV s) (notC_H fun _ => notV s)) := by
  refine fn_ok envOk zl noCon_ok noDraws_ok (keep := [0, 1, 2, 3, 4, 6, 11, 12, 13, 14, 20, 36]) Try.func33 rfl ?_
  have hp' : s.spans.length ≤ 1000 := hp
  cbv
  refine LoopVC.frame [4, 6, 13, 14, 20] (NoX s) (fun x => [(13, .i .i64 fun _ => x.k), (4, .i .i64 fun _ => x.a)]) (fun x => [(2, .blk [.i .i64 fun _ => s.size, .own 3 fun _ => x.out.length]), (3, vecO 39 fun _ => x.out)]) [3] (fun x => s.spans.length - x.k)
      ⟨0, 0, [], Nat.zero_le _, Nat.zero_le _, by simp⟩ rfl (fun _ => rfl) ?_ ?_ fun ⟨k, a, out, hk, ho, hr⟩ => ?_
  · cbv
    repeat' first | (refine Stp.mk ?_; cbv) | (refine Gen.mk fun r hr => ?_; (try simp only [Dat.ok, Dat.dec, Leaf.ok, Leaf.val, Span.eta, Set.eta, val_sl, val_nil] at hr); cbv) | exact trivial | rfl | refine Both.mk ?_ ?_ | (refine Imp.mk fun h => ?_; (try dsimp only at h); (try simp only [nc, Int.toNat_natCast, Bool.not_eq_true', Bool.not_eq_false', decide_eq_true_eq, decide_eq_false_iff_not, beq_iff_eq, beq_eq_false_iff_ne, ba_inj, bne_iff_ne, ne_eq, Bool.and_eq_true, Bool.or_eq_true, Bool.and_eq_false_iff, Bool.or_eq_false_iff, Int.not_le, Int.not_lt, Nat.not_le, Nat.not_lt] at h); (try simp only [nc] at h)) | refine Ob.mk ?_ ?_ | refine Chk.mk (by kernel_rfl) ?_ | refine Eq'.mk ?_ | (refine AllN.mk fun i hi => ?_; cbv) | (refine AllC.mk fun c hc hcm => ?_; (try dsimp only at hc); cbv) | (refine AllS.mk fun r hr => ?_; (try simp only [Dat.ok, Dat.dec, Leaf.ok, Leaf.val, Span.eta, Set.eta, val_sl] at hr); cbv)
    all_goals simp
  · cbv
    repeat' first | (refine Stp.mk ?_; cbv) | (refine Gen.mk fun r hr => ?_; (try simp only [Dat.ok, Dat.dec, Leaf.ok, Leaf.val, Span.eta, Set.eta, val_sl, val_nil] at hr); cbv) | exact trivial | rfl | refine Both.mk ?_ ?_ | (refine Imp.mk fun h => ?_; (try dsimp only at h); (try simp only [nc, Int.toNat_natCast, Bool.not_eq_true', Bool.not_eq_false', decide_eq_true_eq, decide_eq_false_iff_not, beq_iff_eq, beq_eq_false_iff_ne, ba_inj, bne_iff_ne, ne_eq, Bool.and_eq_true, Bool.or_eq_true, Bool.and_eq_false_iff, Bool.or_eq_false_iff, Int.not_le, Int.not_lt, Nat.not_le, Nat.not_lt] at h); (try simp only [nc] at h)) | refine Ob.mk ?_ ?_ | refine Chk.mk (by kernel_rfl) ?_ | refine Eq'.mk ?_ | (refine AllN.mk fun i hi => ?_; cbv) | (refine AllC.mk fun c hc hcm => ?_; (try dsimp only at hc); cbv) | (refine AllS.mk fun r hr => ?_; (try simp only [Dat.ok, Dat.dec, Leaf.ok, Leaf.val, Span.eta, Set.eta, val_sl] at hr); cbv)
    all_goals ((try dsimp only at *); (try simp only [nc, Int.toNat_natCast, Bool.not_eq_true', Bool.not_eq_false', decide_eq_true_eq, decide_eq_false_iff_not, beq_iff_eq, beq_eq_false_iff_ne, ba_inj, bne_iff_ne, ne_eq, Bool.and_eq_true, Bool.or_eq_true, Bool.and_eq_false_iff, Bool.or_eq_false_iff, Int.not_le, Int.not_lt, Nat.not_le, Nat.not_lt] at *); (try simp only [nc] at *))
  · cbv
    repeat' first | (refine Stp.mk ?_; cbv) | (refine Gen.mk fun r hr => ?_; (try simp only [Dat.ok, Dat.dec, Leaf.ok, Leaf.val, Span.eta, Set.eta, val_sl, val_nil] at hr); cbv) | exact trivial | rfl | refine Both.mk ?_ ?_ | (refine Imp.mk fun h => ?_; (try dsimp only at h); (try simp only [nc, Int.toNat_natCast, Bool.not_eq_true', Bool.not_eq_false', decide_eq_true_eq, decide_eq_false_iff_not, beq_iff_eq, beq_eq_false_iff_ne, ba_inj, bne_iff_ne, ne_eq, Bool.and_eq_true, Bool.or_eq_true, Bool.and_eq_false_iff, Bool.or_eq_false_iff, Int.not_le, Int.not_lt, Nat.not_le, Nat.not_lt] at h); (try simp only [nc] at h)) | refine Ob.mk ?_ ?_ | refine Chk.mk (by kernel_rfl) ?_ | refine Eq'.mk ?_ | (refine AllN.mk fun i hi => ?_; cbv) | (refine AllC.mk fun c hc hcm => ?_; (try dsimp only at hc); cbv) | (refine AllS.mk fun r hr => ?_; (try simp only [Dat.ok, Dat.dec, Leaf.ok, Leaf.val, Span.eta, Set.eta, val_sl] at hr); cbv)
    all_goals ((try dsimp only at *); (try simp only [nc, Int.toNat_natCast, Bool.not_eq_true', Bool.not_eq_false', decide_eq_true_eq, decide_eq_false_iff_not, beq_iff_eq, beq_eq_false_iff_ne, ba_inj, bne_iff_ne, ne_eq, Bool.and_eq_true, Bool.or_eq_true, Bool.and_eq_false_iff, Bool.or_eq_false_iff, Int.not_le, Int.not_lt, Nat.not_le, Nat.not_lt] at *); (try simp only [nc] at *))
    all_goals try (rw [drop_cons Dat.d0 (by omega), notS] at hr)
    all_goals try (rw [drop_nil (by omega), notS] at hr)
    all_goals try simp only [if_pos (show a < (s.spans.getD k Dat.d0).frm by assumption)] at hr
    all_goals try simp only [if_neg (show ¬ a < (s.spans.getD k Dat.d0).frm by omega)] at hr
    all_goals try simp only [if_pos (show a < s.size by assumption)] at hr
    all_goals try simp only [if_neg (show ¬ a < s.size by omega), List.append_nil] at hr
    all_goals first
      | omega
      | (unfold InR; omega)
      | (guard_hyp h : a < (s.spans.getD k Dat.d0).frm
         refine ⟨⟨k + 1, (s.spans.getD k Dat.d0).to, out ++ [⟨a, (s.spans.getD k Dat.d0).frm⟩], by omega, by rw [List.length_append]; exact Nat.add_le_add_right ho 1, by rw [hr]; simp⟩, ?_, ?_, rfl, by (try dsimp only); omega⟩
         · cbv
           repeat' first | (refine Stp.mk ?_; cbv) | (refine Gen.mk fun r hr => ?_; (try simp only [Dat.ok, Dat.dec, Leaf.ok, Leaf.val, Span.eta, Set.eta, val_sl, val_nil] at hr); cbv) | exact trivial | rfl | refine Both.mk ?_ ?_ | (refine Imp.mk fun h => ?_; (try dsimp only at h); (try simp only [nc, Int.toNat_natCast, Bool.not_eq_true', Bool.not_eq_false', decide_eq_true_eq, decide_eq_false_iff_not, beq_iff_eq, beq_eq_false_iff_ne, ba_inj, bne_iff_ne, ne_eq, Bool.and_eq_true, Bool.or_eq_true, Bool.and_eq_false_iff, Bool.or_eq_false_iff, Int.not_le, Int.not_lt, Nat.not_le, Nat.not_lt] at h); (try simp only [nc] at h)) | refine Ob.mk ?_ ?_ | refine Chk.mk (by kernel_rfl) ?_ | refine Eq'.mk ?_ | (refine AllN.mk fun i hi => ?_; cbv) | (refine AllC.mk fun c hc hcm => ?_; (try dsimp only at hc); cbv) | (refine AllS.mk fun r hr => ?_; (try simp only [Dat.ok, Dat.dec, Leaf.ok, Leaf.val, Span.eta, Set.eta, val_sl] at hr); cbv)
           all_goals simp
         · cbv
           repeat' first | (refine Stp.mk ?_; cbv) | (refine Gen.mk fun r hr => ?_; (try simp only [Dat.ok, Dat.dec, Leaf.ok, Leaf.val, Span.eta, Set.eta, val_sl, val_nil] at hr); cbv) | exact trivial | rfl | refine Both.mk ?_ ?_ | (refine Imp.mk fun h => ?_; (try dsimp only at h); (try simp only [nc, Int.toNat_natCast, Bool.not_eq_true', Bool.not_eq_false', decide_eq_true_eq, decide_eq_false_iff_not, beq_iff_eq, beq_eq_false_iff_ne, ba_inj, bne_iff_ne, ne_eq, Bool.and_eq_true, Bool.or_eq_true, Bool.and_eq_false_iff, Bool.or_eq_false_iff, Int.not_le, Int.not_lt, Nat.not_le, Nat.not_lt] at h); (try simp only [nc] at h)) | refine Ob.mk ?_ ?_ | refine Chk.mk (by kernel_rfl) ?_ | refine Eq'.mk ?_ | (refine AllN.mk fun i hi => ?_; cbv) | (refine AllC.mk fun c hc hcm => ?_; (try dsimp only at hc); cbv) | (refine AllS.mk fun r hr => ?_; (try simp only [Dat.ok, Dat.dec, Leaf.ok, Leaf.val, Span.eta, Set.eta, val_sl] at hr); cbv)
           all_goals ((try dsimp only at *); (try simp only [nc, Int.toNat_natCast, Bool.not_eq_true', Bool.not_eq_false', decide_eq_true_eq, decide_eq_false_iff_not, beq_iff_eq, beq_eq_false_iff_ne, ba_inj, bne_iff_ne, ne_eq, Bool.and_eq_true, Bool.or_eq_true, Bool.and_eq_false_iff, Bool.or_eq_false_iff, Int.not_le, Int.not_lt, Nat.not_le, Nat.not_lt] at *); (try simp only [nc] at *))
           all_goals first
             | (rw [gd_snoc _ _ _ _ hi]; cases decide (i < out.length) <;> rfl)
             | (simp; done)
             | fail)
      | (refine ⟨⟨k + 1, (s.spans.getD k Dat.d0).to, out, by omega, by omega, hr⟩, ?_, ?_, rfl, by (try dsimp only); omega⟩
         · cbv
           repeat' first | (refine Stp.mk ?_; cbv) | (refine Gen.mk fun r hr => ?_; (try simp only [Dat.ok, Dat.dec, Leaf.ok, Leaf.val, Span.eta, Set.eta, val_sl, val_nil] at hr); cbv) | exact trivial | rfl | refine Both.mk ?_ ?_ | (refine Imp.mk fun h => ?_; (try dsimp only at h); (try simp only [nc, Int.toNat_natCast, Bool.not_eq_true', Bool.not_eq_false', decide_eq_true_eq, decide_eq_false_iff_not, beq_iff_eq, beq_eq_false_iff_ne, ba_inj, bne_iff_ne, ne_eq, Bool.and_eq_true, Bool.or_eq_true, Bool.and_eq_false_iff, Bool.or_eq_false_iff, Int.not_le, Int.not_lt, Nat.not_le, Nat.not_lt] at h); (try simp only [nc] at h)) | refine Ob.mk ?_ ?_ | refine Chk.mk (by kernel_rfl) ?_ | refine Eq'.mk ?_ | (refine AllN.mk fun i hi => ?_; cbv) | (refine AllC.mk fun c hc hcm => ?_; (try dsimp only at hc); cbv) | (refine AllS.mk fun r hr => ?_; (try simp only [Dat.ok, Dat.dec, Leaf.ok, Leaf.val, Span.eta, Set.eta, val_sl] at hr); cbv)
         · cbv
           repeat' first | (refine Stp.mk ?_; cbv) | (refine Gen.mk fun r hr => ?_; (try simp only [Dat.ok, Dat.dec, Leaf.ok, Leaf.val, Span.eta, Set.eta, val_sl, val_nil] at hr); cbv) | exact trivial | rfl | refine Both.mk ?_ ?_ | (refine Imp.mk fun h => ?_; (try dsimp only at h); (try simp only [nc, Int.toNat_natCast, Bool.not_eq_true', Bool.not_eq_false', decide_eq_true_eq, decide_eq_false_iff_not, beq_iff_eq, beq_eq_false_iff_ne, ba_inj, bne_iff_ne, ne_eq, Bool.and_eq_true, Bool.or_eq_true, Bool.and_eq_false_iff, Bool.or_eq_false_iff, Int.not_le, Int.not_lt, Nat.not_le, Nat.not_lt] at h); (try simp only [nc] at h)) | refine Ob.mk ?_ ?_ | refine Chk.mk (by kernel_rfl) ?_ | refine Eq'.mk ?_ | (refine AllN.mk fun i hi => ?_; cbv) | (refine AllC.mk fun c hc hcm => ?_; (try dsimp only at hc); cbv) | (refine AllS.mk fun r hr => ?_; (try simp only [Dat.ok, Dat.dec, Leaf.ok, Leaf.val, Span.eta, Set.eta, val_sl] at hr); cbv))
      | (show _ = List.length (notS s.size 0 s.spans); rw [hr]; done)
      | (show _ = List.length (notS s.size 0 s.spans); rw [hr]; simp; done)
      | (show _ = Span.frm (List.getD (notS s.size 0 s.spans) _ _); rw [hr]; done)
      | (show _ = Span.frm (List.getD (notS s.size 0 s.spans) _ _); rw [hr, gd_snoc _ _ _ _ hi]; cases decide (i < out.length) <;> rfl)
      | (show _ = Span.to (List.getD (notS s.size 0 s.spans) _ _); rw [hr]; done)
      | (show _ = Span.to (List.getD (notS s.size 0 s.spans) _ _); rw [hr, gd_snoc _ _ _ _ hi]; cases decide (i < out.length) <;> rfl)
      | fail
theorem notC_ok : PcOk Try.prog 33 (notC_C) := fun A K h => by
  unfold notC_C at h
  split at h
  · rename_i s
    cases h with
    | mk h1 h2 =>
      obtain ⟨g0, hp⟩ := h1
      refine FnOk.pre ?_ (A' := [.agg (Dat.enc fun _ => (Dat.dec s : Set))]) (.mk (Dat.hle _ g0) (trivial))
      exact FnOk.out (K := fun r H _ => K r H) (notC_vc (Dat.dec s) hp) rfl h2.out
  · cases h

def notP (s : Set) : Set × Int := if checkV s = 0 then (if 200 < (notV s).spans.length then (⟨0, []⟩, 2) else (notV s, 0)) else (⟨0, []⟩, checkV s)
def notPC_R (r : Th (Set × Int)) : AV := .tup [.agg [.i .i64 fun _ => (r ()).1.size, .own 0 fun _ => (r ()).1.spans.length], .i .i64 fun _ => (r ()).2]
def notPC_H (r : Th (Set × Int)) : Hp := [vecO 39 fun _ => (r ()).1.spans]
def notPC_P (s : Set) : Prop := s.spans.length ≤ 9223372036854775807
def notPC_C : PC := fun A K => match A with
  | [.agg s] => Ob (fun _ => Dat.ok Set s ∧ notPC_P (Dat.dec s)) (Gen (α := Set × Int) (fun _ => notP (Dat.dec s)) fun r => K (notPC_R fun _ => r) (notPC_H fun _ => r))
  | _ => Bad 1002
noncomputable def conNI : FuncId → Con := fun f => match f with
  | 33 => pureCon notC_C
  | _ => fun _ _ _ => Bad 1001
theorem conNI_ok : ConOk Try.prog conNI := fun f A H K h => by
  unfold conNI at h
  split at h
  · exact ⟨⟨Try.f33, Try.func33, by kernel_rfl, by kernel_rfl⟩, pureCon_ok notC_ok h⟩
  · cases h
noncomputable def conN : FuncId → Con := fun f => match f with
  | 17 => pureCon (detPC check_D)
  | 33 => pureCon notC_C
  | 31 => inlCon E noCon noDraws [0, 1, 2, 3, 7] Try.f31
  | _ => fun _ _ _ => Bad 1001
theorem conN_ok : ConOk Try.prog conN := fun f A H K h => by
  unfold conN at h
  split at h
  · exact ⟨⟨Try.f17, Try.func17, by kernel_rfl, by kernel_rfl⟩, pureCon_ok check_ok h⟩
  · exact ⟨⟨Try.f33, Try.func33, by kernel_rfl, by kernel_rfl⟩, pureCon_ok notC_ok h⟩
  · exact ⟨⟨Try.f31, Try.func31, by kernel_rfl, by kernel_rfl⟩, inl_ok envOk zl noCon_ok noDraws_ok Try.func31 h⟩
  · cases h
theorem notS_len {size : Int} : ∀ {l : List Span} {a : Int}, (notS size a l).length ≤ l.length + 1
  | [], a => by unfold notS; split <;> simp
  | x :: r, a => by
    have := @notS_len size r x.to
    unfold notS; split <;> simp <;> omega
set_option maxRecDepth 100000 in
set_option maxHeartbeats 4000000 in
theorem notPC_vc (s : Set) (hp : notPC_P s) : FnOk Try.prog 20 [.agg (Dat.enc fun _ => s)] [] (outA (notPC_R fun _ => notP s) (notPC_H fun _ => notP s)) := by
  refine fn_ok envOk zl conN_ok noDraws_ok (keep := [0, 1, 2, 3, 4, 8]) Try.func20 rfl ?_
  have hp' : s.spans.length ≤ 9223372036854775807 := hp
  cbv
  repeat' first | (refine Stp.mk ?_; cbv) | (refine Gen.mk fun r hr => ?_; (try simp only [Dat.ok, Dat.dec, Leaf.ok, Leaf.val, Span.eta, Set.eta, val_sl, val_nil] at hr); cbv) | exact trivial | rfl | refine Both.mk ?_ ?_ | (refine Imp.mk fun h => ?_; (try dsimp only at h); (try simp only [nc, Int.toNat_natCast, Bool.not_eq_true', Bool.not_eq_false', decide_eq_true_eq, decide_eq_false_iff_not, beq_iff_eq, beq_eq_false_iff_ne, ba_inj, bne_iff_ne, ne_eq, Bool.and_eq_true, Bool.or_eq_true, Bool.and_eq_false_iff, Bool.or_eq_false_iff, Int.not_le, Int.not_lt, Nat.not_le, Nat.not_lt] at h); (try simp only [nc] at h)) | refine Ob.mk ?_ ?_ | refine Chk.mk (by kernel_rfl) ?_ | refine Eq'.mk ?_ | (refine AllN.mk fun i hi => ?_; cbv) | (refine AllC.mk fun c hc hcm => ?_; (try dsimp only at hc); cbv) | (refine AllS.mk fun r hr => ?_; (try simp only [Dat.ok, Dat.dec, Leaf.ok, Leaf.val, Span.eta, Set.eta, val_sl] at hr); cbv)
  all_goals ((try dsimp only at *); (try simp only [nc, Int.toNat_natCast, Bool.not_eq_true', Bool.not_eq_false', decide_eq_true_eq, decide_eq_false_iff_not, beq_iff_eq, beq_eq_false_iff_ne, ba_inj, bne_iff_ne, ne_eq, Bool.and_eq_true, Bool.or_eq_true, Bool.and_eq_false_iff, Bool.or_eq_false_iff, Int.not_le, Int.not_lt, Nat.not_le, Nat.not_lt] at *); (try simp only [nc] at *))
  all_goals try simp only [Dat.ok, Dat.dec, Leaf.ok, Leaf.val, Span.eta, Set.eta, val_sl] at *
  all_goals try have hR := check_iff.1 (show checkV s = 0 by assumption)
  all_goals try have hl3 := hR.len
  all_goals try have hl := @notS_len s.size s.spans 0
  all_goals first
    | exact ⟨⟨trivial, rfl, fun i _ => Dat.hok _⟩, hp'⟩
    | exact ⟨⟨trivial, rfl, fun i _ => Dat.hok _⟩, show s.spans.length ≤ 1000 by omega⟩
    | (exfalso; omega)
    | (have e : notP s = (⟨0, []⟩, checkV s) := if_neg (by assumption)
       rw [e]; done)
    | (have e : notP s = (⟨0, []⟩, checkV s) := if_neg (by assumption)
       rw [e]; rfl)
    | (have hrl : 200 < ((r.spans.length : Nat) : Int) := (by assumption)
       subst hr
       have e : notP s = (⟨0, []⟩, 2) := by rw [notP, if_pos (by assumption), if_pos (by omega)]
       rw [e]; done)
    | (have hrl : 200 < ((r.spans.length : Nat) : Int) := (by assumption)
       subst hr
       have e : notP s = (⟨0, []⟩, 2) := by rw [notP, if_pos (by assumption), if_pos (by omega)]
       rw [e]; rfl)
    | (subst hr
       have e : notP s = (notV s, 0) := by rw [notP, if_pos (by assumption), if_neg (by omega)]
       rw [e]; done)
    | fail
theorem notPC_ok : PcOk Try.prog 20 (notPC_C) := fun A K h => by
  unfold notPC_C at h
  split at h
  · rename_i s
    cases h with
    | mk h1 h2 =>
      obtain ⟨g0, hp⟩ := h1
      refine FnOk.pre ?_ (A' := [.agg (Dat.enc fun _ => (Dat.dec s : Set))]) (.mk (Dat.hle _ g0) (trivial))
      exact FnOk.out (K := fun r H _ => K r H) (notPC_vc (Dat.dec s) hp) rfl h2.out
  · cases h

end Go.Proofs.Ytkpkfkbbkcecmaa
