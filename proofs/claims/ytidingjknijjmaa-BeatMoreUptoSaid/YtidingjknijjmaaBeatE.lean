/- Is it doubted, at a time: the document's answer, walked. -/
import Derived.Test.YtidingjknijjmaaBeatD
import Derived.Test.YtidingjknijjmaaAbsFroz
set_option linter.all false
namespace Go.Proofs.Ytidingjknijjmaa
open Go Go.Abs

def doubtF_R (r : Th ((List Span) × Int)) : AV := .tup [Leaf.av fun _ => (r ()).1, .i .i64 fun _ => (r ()).2]
def doubtF_D : Det := fun A => match A with
  | [heard, .i .i64 limit, .i .i64 u] => some (fun _ => Leaf.ok (List Int) heard ∧ doubtC_P (Leaf.val heard) (limit ()) (u ()), doubtF_R fun _ => doubtsV (Leaf.val heard) (limit ()) (u ()))
  | _ => none
theorem doubtF_ok : PcOk Try.prog 9 (detPC doubtF_D) := det_okF fun A p r h hp0 => by
  unfold doubtF_D at h
  split at h
  · rename_i heard limit u
    cases h
    obtain ⟨g0, hp⟩ := hp0
    exact FnOk.froz (FnOk.pre (A' := [Leaf.av fun _ => (Leaf.val heard : (List Int)), .i .i64 fun _ => limit (), .i .i64 fun _ => u ()]) (doubtC_vc (Leaf.val heard) (limit ()) (u ()) hp) (.mk (Leaf.hle _ g0) (.mk (.mk (.mk rfl) (.mk rfl)) (.mk (.mk (.mk rfl) (.mk rfl)) (trivial))))) rfl (q := _) (d := _) rfl (by intro p hp; repeat (first | (cases hp; done) | (rcases List.mem_cons.1 hp with rfl | hp; · exact Nat.le_refl _))) rfl ⟨rfl, rfl⟩
  · cases h
theorem doubtF_okF : ∀ A p r, doubtF_D A = some (p, r) → p () → FrOk Try.prog 9 A r := fun A p r h hp0 => by
  unfold doubtF_D at h
  split at h
  · rename_i heard limit u
    cases h
    obtain ⟨g0, hp⟩ := hp0
    exact FnOk.fresh (A := [heard, .i .i64 limit, .i .i64 u]) (FnOk.pre (A' := [Leaf.av fun _ => (Leaf.val heard : (List Int)), .i .i64 fun _ => limit (), .i .i64 fun _ => u ()]) (doubtC_vc (Leaf.val heard) (limit ()) (u ()) hp) (.mk (Leaf.hle _ g0) (.mk (.mk (.mk rfl) (.mk rfl)) (.mk (.mk (.mk rfl) (.mk rfl)) (trivial))))) rfl (q := _) (d := _) rfl (by intro p hp; repeat (first | (cases hp; done) | (rcases List.mem_cons.1 hp with rfl | hp; · exact Nat.le_refl _))) rfl rfl ⟨.mk fun _ _ => rfl, trivial⟩
  · cases h
structure DbX (heard : List Int) (t : Int) where
  k : Nat
  q : Int
  hk : k ≤ heard.length
  q0 : 0 ≤ q
  q1 : q ≤ 1099511627776
  he : lastB t 0 heard = lastB t q (heard.drop k)
theorem last_drop {t q : Int} {l : List Int} {k : Nat} (hk : k < l.length) : lastB t q (l.drop k) = lastB t (if l.getD k Dat.d0 ≤ t then (if l.getD k Dat.d0 > q then l.getD k Dat.d0 else q) else q) (l.drop (k + 1)) := by
  rw [drop_cons Dat.d0 hk, lastB]
theorem rise_get {l : List Int} {k : Nat} (hr : riseB 0 l = true) (hk : k < l.length) : 0 ≤ l.getD k Dat.d0 ∧ l.getD k Dat.d0 ≤ 1099511627776 := by
  rw [List.getD_eq_getElem?_getD, List.getElem?_eq_getElem hk]
  exact ⟨riseB_le hr (List.getElem_mem _), riseB_hi hr (List.getElem_mem _)⟩
def dbtd_R (r : Th (Bool)) : AV := .b fun _ => (r ())
def dbtd_S (heard : (List Int)) (limit : Int) (t : Int) : Bool := decide (lastB t 0 heard + limit < t)
def dbtd_P (heard : (List Int)) (limit : Int) (t : Int) : Prop := riseB 0 heard = true ∧ 0 ≤ limit ∧ limit ≤ 1000000 ∧ heard.length ≤ 500
def dbtd_D : Det := fun A => match A with
  | [heard, .i .i64 limit, .i .i64 t] => some (fun _ => Leaf.ok (List Int) heard ∧ dbtd_P (Leaf.val heard) (limit ()) (t ()), dbtd_R fun _ => dbtd_S (Leaf.val heard) (limit ()) (t ()))
  | _ => none
set_option maxRecDepth 100000 in
set_option maxHeartbeats 4000000 in
theorem dbtd_vc (heard : (List Int)) (limit : Int) (t : Int) (hp : dbtd_P heard limit t) : FnOk Try.prog 18 [Leaf.av fun _ => heard, .i .i64 fun _ => limit, .i .i64 fun _ => t] [] (outA (dbtd_R fun _ => dbtd_S heard limit t) []) := by
  refine fn_ok envOk zl noCon_ok noDraws_ok (keep := [0, 1, 2, 6, 7, 9, 10, 11, 12, 13, 18]) Try.func18 rfl ?_
  obtain ⟨p1, p2, p3, p4⟩ : riseB 0 heard = true ∧ 0 ≤ limit ∧ limit ≤ 1000000 ∧ heard.length ≤ 500 := hp
  cbv
  refine LoopVC.frame [7, 9, 12, 13, 18] (DbX heard t) (fun x => [(12, .i .i64 fun _ => x.k), (7, .i .i64 fun _ => x.q)]) (fun _ => []) [] (fun x => heard.length - x.k) ⟨0, 0, Nat.zero_le _, by decide, by decide, rfl⟩ rfl (fun _ => rfl) ?_ ?_ fun ⟨k, q, hk, q0, q1, he⟩ => ?_
  · cbv
    repeat' first | (refine Stp.mk ?_; cbv) | (refine Gen.mk fun r hr => ?_; (try simp only [Dat.ok, Dat.dec, Leaf.ok, Leaf.val, Span.eta, val_sl, val_nil] at hr); cbv) | exact trivial | rfl | refine Both.mk ?_ ?_ | (refine Imp.mk fun h => ?_; (try dsimp only at h); (try simp only [nc, Int.toNat_natCast, Bool.not_eq_true', Bool.not_eq_false', decide_eq_true_eq, decide_eq_false_iff_not, beq_iff_eq, beq_eq_false_iff_ne, ba_inj, bne_iff_ne, ne_eq, Bool.and_eq_true, Bool.or_eq_true, Bool.and_eq_false_iff, Bool.or_eq_false_iff, Int.not_le, Int.not_lt, Nat.not_le, Nat.not_lt] at h); (try simp only [nc] at h)) | refine Ob.mk ?_ ?_ | refine Chk.mk (by kernel_rfl) ?_ | refine Eq'.mk ?_ | (refine AllN.mk fun i hi => ?_; cbv) | (refine AllS.mk fun r hr => ?_; (try simp only [Dat.ok, Dat.dec, Leaf.ok, Leaf.val, Span.eta, val_sl] at hr); cbv)
  · cbv
    repeat' first | (refine Stp.mk ?_; cbv) | (refine Gen.mk fun r hr => ?_; (try simp only [Dat.ok, Dat.dec, Leaf.ok, Leaf.val, Span.eta, val_sl, val_nil] at hr); cbv) | exact trivial | rfl | refine Both.mk ?_ ?_ | (refine Imp.mk fun h => ?_; (try dsimp only at h); (try simp only [nc, Int.toNat_natCast, Bool.not_eq_true', Bool.not_eq_false', decide_eq_true_eq, decide_eq_false_iff_not, beq_iff_eq, beq_eq_false_iff_ne, ba_inj, bne_iff_ne, ne_eq, Bool.and_eq_true, Bool.or_eq_true, Bool.and_eq_false_iff, Bool.or_eq_false_iff, Int.not_le, Int.not_lt, Nat.not_le, Nat.not_lt] at h); (try simp only [nc] at h)) | refine Ob.mk ?_ ?_ | refine Chk.mk (by kernel_rfl) ?_ | refine Eq'.mk ?_ | (refine AllN.mk fun i hi => ?_; cbv) | (refine AllS.mk fun r hr => ?_; (try simp only [Dat.ok, Dat.dec, Leaf.ok, Leaf.val, Span.eta, val_sl] at hr); cbv)
  · have hg := fun h => rise_get (k := k) p1 h
    cbv
    repeat' first | (show Stp _; exfalso; first | omega | (exact h ‹_›) | (exact absurd ‹_› h) | (exact Bool.false_ne_true (h.symm.trans (show _ = true by assumption)))) | (refine Stp.mk ?_; cbv) | (refine Gen.mk fun r hr => ?_; (try simp only [Dat.ok, Dat.dec, Leaf.ok, Leaf.val, Span.eta, val_sl, val_nil] at hr); cbv) | exact trivial | rfl | refine Both.mk ?_ ?_ | (refine Imp.mk fun h => ?_; (try dsimp only at h); (try simp only [nc, Int.toNat_natCast, Bool.not_eq_true', Bool.not_eq_false', decide_eq_true_eq, decide_eq_false_iff_not, beq_iff_eq, beq_eq_false_iff_ne, ba_inj, bne_iff_ne, ne_eq, Bool.and_eq_true, Bool.or_eq_true, Bool.and_eq_false_iff, Bool.or_eq_false_iff, Int.not_le, Int.not_lt, Nat.not_le, Nat.not_lt] at h); (try simp only [nc] at h)) | refine Ob.mk ?_ ?_ | refine Chk.mk (by kernel_rfl) ?_ | refine Eq'.mk ?_ | (refine AllN.mk fun i hi => ?_; cbv) | (refine AllS.mk fun r hr => ?_; (try simp only [Dat.ok, Dat.dec, Leaf.ok, Leaf.val, Span.eta, val_sl] at hr); cbv)
    all_goals ((try dsimp only at *); (try simp only [nc, Int.toNat_natCast, Bool.not_eq_true', Bool.not_eq_false', decide_eq_true_eq, decide_eq_false_iff_not, beq_iff_eq, beq_eq_false_iff_ne, ba_inj, bne_iff_ne, ne_eq, Bool.and_eq_true, Bool.or_eq_true, Bool.and_eq_false_iff, Bool.or_eq_false_iff, Int.not_le, Int.not_lt, Nat.not_le, Nat.not_lt] at *); (try simp only [nc] at *))
    all_goals try rw [nc] at *
    all_goals first
      | omega
      | (unfold InR; omega)
      | (have hk2 : k < heard.length := by omega
         have h2 := hg hk2
         have c : heard.getD k Dat.d0 ≤ t := by assumption
         have e := he
         rw [last_drop hk2, if_pos c] at e
         refine ⟨⟨k + 1, if heard.getD k Dat.d0 > q then heard.getD k Dat.d0 else q, by omega, by split <;> omega, by split <;> omega, e⟩, ?_, ?_, rfl, by (try dsimp only); omega⟩
         · cbv
           repeat' first | (refine Stp.mk ?_; cbv) | (refine Gen.mk fun r hr => ?_; (try simp only [Dat.ok, Dat.dec, Leaf.ok, Leaf.val, Span.eta, val_sl, val_nil] at hr); cbv) | exact trivial | rfl | refine Both.mk ?_ ?_ | (refine Imp.mk fun h => ?_; (try dsimp only at h); (try simp only [nc, Int.toNat_natCast, Bool.not_eq_true', Bool.not_eq_false', decide_eq_true_eq, decide_eq_false_iff_not, beq_iff_eq, beq_eq_false_iff_ne, ba_inj, bne_iff_ne, ne_eq, Bool.and_eq_true, Bool.or_eq_true, Bool.and_eq_false_iff, Bool.or_eq_false_iff, Int.not_le, Int.not_lt, Nat.not_le, Nat.not_lt] at h); (try simp only [nc] at h)) | refine Ob.mk ?_ ?_ | refine Chk.mk (by kernel_rfl) ?_ | refine Eq'.mk ?_ | (refine AllN.mk fun i hi => ?_; cbv) | (refine AllS.mk fun r hr => ?_; (try simp only [Dat.ok, Dat.dec, Leaf.ok, Leaf.val, Span.eta, val_sl] at hr); cbv)
           all_goals rfl
         · cbv
           repeat' first | (refine Stp.mk ?_; cbv) | (refine Gen.mk fun r hr => ?_; (try simp only [Dat.ok, Dat.dec, Leaf.ok, Leaf.val, Span.eta, val_sl, val_nil] at hr); cbv) | exact trivial | rfl | refine Both.mk ?_ ?_ | (refine Imp.mk fun h => ?_; (try dsimp only at h); (try simp only [nc, Int.toNat_natCast, Bool.not_eq_true', Bool.not_eq_false', decide_eq_true_eq, decide_eq_false_iff_not, beq_iff_eq, beq_eq_false_iff_ne, ba_inj, bne_iff_ne, ne_eq, Bool.and_eq_true, Bool.or_eq_true, Bool.and_eq_false_iff, Bool.or_eq_false_iff, Int.not_le, Int.not_lt, Nat.not_le, Nat.not_lt] at h); (try simp only [nc] at h)) | refine Ob.mk ?_ ?_ | refine Chk.mk (by kernel_rfl) ?_ | refine Eq'.mk ?_ | (refine AllN.mk fun i hi => ?_; cbv) | (refine AllS.mk fun r hr => ?_; (try simp only [Dat.ok, Dat.dec, Leaf.ok, Leaf.val, Span.eta, val_sl] at hr); cbv))
      | (have hk2 : k < heard.length := by omega
         have h2 := hg hk2
         have c : ¬ heard.getD k Dat.d0 ≤ t := by omega
         have e := he
         rw [last_drop hk2, if_neg c] at e
         refine ⟨⟨k + 1, q, by omega, q0, q1, e⟩, ?_, ?_, rfl, by (try dsimp only); omega⟩
         · cbv
           repeat' first | (refine Stp.mk ?_; cbv) | (refine Gen.mk fun r hr => ?_; (try simp only [Dat.ok, Dat.dec, Leaf.ok, Leaf.val, Span.eta, val_sl, val_nil] at hr); cbv) | exact trivial | rfl | refine Both.mk ?_ ?_ | (refine Imp.mk fun h => ?_; (try dsimp only at h); (try simp only [nc, Int.toNat_natCast, Bool.not_eq_true', Bool.not_eq_false', decide_eq_true_eq, decide_eq_false_iff_not, beq_iff_eq, beq_eq_false_iff_ne, ba_inj, bne_iff_ne, ne_eq, Bool.and_eq_true, Bool.or_eq_true, Bool.and_eq_false_iff, Bool.or_eq_false_iff, Int.not_le, Int.not_lt, Nat.not_le, Nat.not_lt] at h); (try simp only [nc] at h)) | refine Ob.mk ?_ ?_ | refine Chk.mk (by kernel_rfl) ?_ | refine Eq'.mk ?_ | (refine AllN.mk fun i hi => ?_; cbv) | (refine AllS.mk fun r hr => ?_; (try simp only [Dat.ok, Dat.dec, Leaf.ok, Leaf.val, Span.eta, val_sl] at hr); cbv)
         · cbv
           repeat' first | (refine Stp.mk ?_; cbv) | (refine Gen.mk fun r hr => ?_; (try simp only [Dat.ok, Dat.dec, Leaf.ok, Leaf.val, Span.eta, val_sl, val_nil] at hr); cbv) | exact trivial | rfl | refine Both.mk ?_ ?_ | (refine Imp.mk fun h => ?_; (try dsimp only at h); (try simp only [nc, Int.toNat_natCast, Bool.not_eq_true', Bool.not_eq_false', decide_eq_true_eq, decide_eq_false_iff_not, beq_iff_eq, beq_eq_false_iff_ne, ba_inj, bne_iff_ne, ne_eq, Bool.and_eq_true, Bool.or_eq_true, Bool.and_eq_false_iff, Bool.or_eq_false_iff, Int.not_le, Int.not_lt, Nat.not_le, Nat.not_lt] at h); (try simp only [nc] at h)) | refine Ob.mk ?_ ?_ | refine Chk.mk (by kernel_rfl) ?_ | refine Eq'.mk ?_ | (refine AllN.mk fun i hi => ?_; cbv) | (refine AllS.mk fun r hr => ?_; (try simp only [Dat.ok, Dat.dec, Leaf.ok, Leaf.val, Span.eta, val_sl] at hr); cbv))
      | (rw [List.drop_eq_nil_of_le (by omega)] at he
         show _ = decide (lastB t 0 heard + limit < t)
         rw [he]; rfl)
      | fail
theorem dbtd_ok : PcOk Try.prog 18 (detPC dbtd_D) := det_okA fun A p r h hp0 => by
  unfold dbtd_D at h
  split at h
  · rename_i heard limit t
    cases h
    obtain ⟨g0, hp⟩ := hp0
    exact ⟨rfl, FnOk.pre (A' := [Leaf.av fun _ => (Leaf.val heard : (List Int)), .i .i64 fun _ => limit (), .i .i64 fun _ => t ()]) (dbtd_vc (Leaf.val heard) (limit ()) (t ()) hp) (.mk (Leaf.hle _ g0) (.mk (.mk (.mk rfl) (.mk rfl)) (.mk (.mk (.mk rfl) (.mk rfl)) (trivial))))⟩
  · cases h

end Go.Proofs.Ytidingjknijjmaa
