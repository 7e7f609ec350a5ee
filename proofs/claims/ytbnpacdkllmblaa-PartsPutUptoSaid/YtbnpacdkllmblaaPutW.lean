/- parts.Put: walked. -/
import Derived.Test.YtbnpacdkllmblaaFeedO
set_option linter.all false
namespace Go.Proofs.Ytbnpacdkllmblaa
open Go Go.Abs

noncomputable def cPu : FuncId → Con := fun f => match f with
  | 12 => pureCon (detPC mchkC_D)
  | 37 => pureCon (detPC pinC_D)
  | 40 => pureCon (detPC wideC_D)
  | 38 => ownPC_K
  | _ => fun _ _ _ => Bad 1001
theorem cPu_ok : ConOk Try.prog cPu := fun f A H K h => by
  unfold cPu at h
  split at h
  · exact ⟨⟨Try.f12, Try.func12, by kernel_rfl, by kernel_rfl⟩, pureCon_ok mchkC_ok h⟩
  · exact ⟨⟨Try.f37, Try.func37, by kernel_rfl, by kernel_rfl⟩, pureCon_ok pinC_ok h⟩
  · exact ⟨⟨Try.f40, Try.func40, by kernel_rfl, by kernel_rfl⟩, pureCon_ok wideC_ok h⟩
  · exact ⟨⟨Try.f38, Try.func38, by kernel_rfl, by kernel_rfl⟩, ownPC_ok h⟩
  · cases h
def dPu : FuncId → Option Dt := fun f => match f with
  | _ => none
theorem dPu_ok : DetOk Try.prog dPu := fun f d h => by
  unfold dPu at h
  split at h
  · cases h
theorem setP_bif2 {α : Type} (f : Part → α) {l : List Part} {k i : Nat} {x : Part} {a : α} (ha : f x = a) (hi : i < l.length) : (bif decide (i = k) then a else f (l.getD i Dat.d0)) = f ((l.set k x).getD i Dat.d0) := by
  subst ha
  rw [setP_any]
  by_cases e : i = k
  · rw [if_pos ⟨e, hi⟩, decide_eq_true e]; rfl
  · rw [if_neg (fun z => e z.1), decide_eq_false e]; rfl
theorem getD_appB {b l : List Int} {k : Nat} : (b ++ l).getD k Dat.d0 = bif decide (k < b.length) then b.getD k Dat.d0 else l.getD (k - b.length) Dat.d0 := by
  by_cases h : k < b.length
  · rw [decide_eq_true h, cond_true, List.getD_eq_getElem?_getD, List.getD_eq_getElem?_getD, List.getElem?_append_left h]
  · rw [decide_eq_false h, cond_false, List.getD_eq_getElem?_getD, List.getD_eq_getElem?_getD, List.getElem?_append_right (by omega)]
set_option maxRecDepth 100000 in
set_option maxHeartbeats 4000000 in
theorem puto_vc (m : Module) (i : Int) (l : List Int) (hp : mchkC_P m) (hl : l.length ≤ 9223372036854775807) (R : Module × Int) (hR : putV m i l = R) :
    FnOk Try.prog 30 [.agg (Dat.enc fun _ => m), .i .i64 fun _ => i, .sl 1 (fun _ => l.length) fun k => Dat.enc fun _ => l.getD (k ()) Dat.d0] [] (outA (.tup [.agg (mdA 0 fun _ => R.1), .i .i64 fun _ => R.2]) [psO (fun _ => R.1.parts.length) fun _ => R.1.parts]) := by
  have fin0 : ∀ e H kl, R = (zM, e) → outA (.tup [.agg (mdA 0 fun _ => R.1), .i .i64 fun _ => R.2]) [psO (fun _ => R.1.parts.length) fun _ => R.1.parts] (.tup [.agg [.i .i64 fun _ => 0, .nil, .nil, .nil, .i .i64 fun _ => 0, .i .i64 fun _ => 0], .i .i64 fun _ => e]) H kl := fun e H kl h => by
    subst h
    cbv
    repeat' first | (refine Stp.mk ?_; cbv) | (refine Gen.mk fun r hr => ?_; (try simp only [Dat.ok, Dat.dec, Leaf.ok, Leaf.val, Z0, Z1, Z2, Z3, Z4, Z5, Z6, Z7, val_sl, val_nil] at hr); cbv) | exact trivial | rfl | refine Both.mk ?_ ?_ | (refine Imp.mk fun h => ?_; (try dsimp only at h); (try simp only [nc, Int.toNat_natCast, ne_eq, zz] at h); (try simp only [nc] at h)) | refine Ob.mk ?_ ?_ | refine Chk.mk (by kernel_rfl) ?_ | refine Eq'.mk ?_ | (refine AllN.mk fun i hi => ?_; cbv) | (refine AllC.mk fun c hc hcm => ?_; (try dsimp only at hc); cbv) | (refine AllS.mk fun r hr => ?_; (try simp only [Dat.ok, Dat.dec, Leaf.ok, Leaf.val, Z0, Z1, Z2, Z3, Z4, Z5, Z6, Z7, val_sl] at hr); cbv)
    all_goals first | exact absurd hi (Nat.not_lt_zero _) | fail
  generalize hK : outA (.tup [.agg (mdA 0 fun _ => R.1), .i .i64 fun _ => R.2]) [psO (fun _ => R.1.parts.length) fun _ => R.1.parts] = K at fin0 ⊢
  refine fn_ok envOk zl cPu_ok (drawsN_ok envOk zl dPu_ok mixed) (keep := [0, 1, 2, 3, 6, 7, 8, 11, 14, 19, 22, 35]) Try.func30 rfl ?_
  cbv
  repeat' first | (show Stp _; exfalso; first | omega | (exact h ‹_›) | (exact absurd ‹_› h) | (exact Bool.false_ne_true (h.symm.trans (show _ = true by assumption)))) | (refine Stp.mk ?_; cbv) | (refine Gen.mk fun r hr => ?_; (try simp only [Dat.ok, Dat.dec, Leaf.ok, Leaf.val, Z0, Z1, Z2, Z3, Z4, Z5, Z6, Z7, val_sl, val_nil] at hr); cbv) | exact trivial | rfl | refine Both.mk ?_ ?_ | (refine Imp.mk fun h => ?_; (try dsimp only at h); (try simp only [nc, Int.toNat_natCast, ne_eq, zz] at h); (try simp only [nc] at h)) | refine Ob.mk ?_ ?_ | refine Chk.mk (by kernel_rfl) ?_ | refine Eq'.mk ?_ | (refine AllN.mk fun i hi => ?_; cbv) | (refine AllC.mk fun c hc hcm => ?_; (try dsimp only at hc); cbv) | (refine AllS.mk fun r hr => ?_; (try simp only [Dat.ok, Dat.dec, Leaf.ok, Leaf.val, Z0, Z1, Z2, Z3, Z4, Z5, Z6, Z7, val_sl] at hr); cbv)
  all_goals ((try dsimp only at *); (try simp only [nc, Int.toNat_natCast, ne_eq, zz] at *); (try simp only [nc] at *))
  all_goals try simp only [Dat.dec, Leaf.val, Z0, Z1, Z2, Z3, Z4, Z5, Z6, Z7, val_sl] at *
  all_goals try first
    | exact ⟨⟨trivial, ⟨rfl, fun i _ => Dat.hok _⟩, ⟨rfl, fun i _ => Dat.hok _⟩, ⟨rfl, fun i _ => Dat.hok _⟩, trivial, trivial⟩, hp⟩
    | exact ⟨⟨trivial, ⟨rfl, fun i _ => Dat.hok _⟩, ⟨rfl, fun i _ => Dat.hok _⟩, ⟨rfl, fun i _ => Dat.hok _⟩, trivial, trivial⟩, hp.2.1⟩
    | exact ⟨⟨rfl, fun i _ => Dat.hok _⟩, hl⟩
    | (refine fin0 _ _ _ ?_
       rw [← hR, putV, if_pos (by assumption)]
       done)
    | (refine fin0 _ _ _ ?_
       rw [← hR, putV, if_neg (fun q => q (by assumption)), if_pos (by assumption)]
       done)
    | (refine fin0 _ _ _ ?_
       rw [← hR, putV, if_neg (fun q => q (by assumption)), if_neg (by simp only [Bool.not_eq_false]; assumption), if_pos (by assumption)]
       done)
  all_goals have hm : mchkV m = 0 := by assumption
  all_goals have hb : partB m i = true := by assumption
  all_goals have hb2 := of_decide_eq_true hb
  all_goals have hw : wideB l = false := by assumption
  all_goals have M := mchk_iff.1 hm
  all_goals have hbx := (prt_iff.1 (M.p _ (show m.parts.getD i.toNat Dat.d0 ∈ m.parts by rw [List.getD_eq_getElem?_getD, List.getElem?_eq_getElem (show i.toNat < m.parts.length by omega)]; exact List.getElem_mem _))).l
  all_goals try first
    | exact ⟨by omega, by omega⟩
    | (unfold InR; omega)
    | (refine fin0 _ _ _ ?_
       rw [← hR, putV, if_neg (fun q => q hm), if_neg (by rw [hb]; decide), if_neg (by rw [hw]; decide), if_pos (by omega)]
       done)
  have eR : R = (⟨m.table, m.parts.set i.toNat ⟨(m.parts.getD i.toNat Dat.d0).code, (m.parts.getD i.toNat Dat.d0).vm, (m.parts.getD i.toNat Dat.d0).box ++ l⟩, m.wires, m.now, m.lost⟩, 0) := by
    rw [← hR, putV, if_neg (fun q => q hm), if_neg (by rw [hb]; decide), if_neg (by rw [hw]; decide), if_neg (by omega)]
  have h1 : i.toNat < m.parts.length := by omega
  have h2 : ((m.parts.getD i.toNat Dat.d0).box.length + l.length) * 8 ≤ 140737488355328 ∧ (m.parts.getD i.toNat Dat.d0).box.length + l.length ≤ 9223372036854775807 := by omega
  refine OwnP.mk m hm ?_ ?_
  · cbv
    repeat' first | (refine Stp.mk ?_; cbv) | (refine Gen.mk fun r hr => ?_; (try simp only [Dat.ok, Dat.dec, Leaf.ok, Leaf.val, Z0, Z1, Z2, Z3, Z4, Z5, Z6, Z7, val_sl, val_nil] at hr); cbv) | exact trivial | rfl | refine Both.mk ?_ ?_ | (refine Imp.mk fun h => ?_; (try dsimp only at h); (try simp only [nc, Int.toNat_natCast, ne_eq, zz] at h); (try simp only [nc] at h)) | refine Ob.mk ?_ ?_ | refine Chk.mk (by kernel_rfl) ?_ | refine Eq'.mk ?_ | (refine AllN.mk fun i hi => ?_; cbv) | (refine AllC.mk fun c hc hcm => ?_; (try dsimp only at hc); cbv) | (refine AllS.mk fun r hr => ?_; (try simp only [Dat.ok, Dat.dec, Leaf.ok, Leaf.val, Z0, Z1, Z2, Z3, Z4, Z5, Z6, Z7, val_sl] at hr); cbv)
    all_goals fail
  cbv
  repeat' first | (refine Stp.mk ?_; cbv) | (refine Gen.mk fun r hr => ?_; (try simp only [Dat.ok, Dat.dec, Leaf.ok, Leaf.val, Z0, Z1, Z2, Z3, Z4, Z5, Z6, Z7, val_sl, val_nil] at hr); cbv) | exact trivial | rfl | refine Both.mk ?_ ?_ | (refine Imp.mk fun h => ?_; (try dsimp only at h); (try simp only [nc, Int.toNat_natCast, ne_eq, zz] at h); (try simp only [nc] at h)) | refine Ob.mk ?_ ?_ | refine Chk.mk (by kernel_rfl) ?_ | refine Eq'.mk ?_ | (refine AllN.mk fun i hi => ?_; cbv) | (refine AllC.mk fun c hc hcm => ?_; (try dsimp only at hc); cbv) | (refine AllS.mk fun r hr => ?_; (try simp only [Dat.ok, Dat.dec, Leaf.ok, Leaf.val, Z0, Z1, Z2, Z3, Z4, Z5, Z6, Z7, val_sl] at hr); cbv)
  all_goals try first
    | exact h1
    | exact hb2
    | exact ⟨Nat.le_refl _, trivial, h2.1, h2.2, Nat.le_refl _⟩
  rw [← hK, eR]
  cbv
  repeat' first | (refine Stp.mk ?_; cbv) | (refine Gen.mk fun r hr => ?_; (try simp only [Dat.ok, Dat.dec, Leaf.ok, Leaf.val, Z0, Z1, Z2, Z3, Z4, Z5, Z6, Z7, val_sl, val_nil] at hr); cbv) | exact trivial | rfl | refine Both.mk ?_ ?_ | (refine Imp.mk fun h => ?_; (try dsimp only at h); (try simp only [nc, Int.toNat_natCast, ne_eq, zz] at h); (try simp only [nc] at h)) | refine Ob.mk ?_ ?_ | refine Chk.mk (by kernel_rfl) ?_ | refine Eq'.mk ?_ | (refine AllN.mk fun i hi => ?_; cbv) | (refine AllC.mk fun c hc hcm => ?_; (try dsimp only at hc); cbv) | (refine AllS.mk fun r hr => ?_; (try simp only [Dat.ok, Dat.dec, Leaf.ok, Leaf.val, Z0, Z1, Z2, Z3, Z4, Z5, Z6, Z7, val_sl] at hr); cbv)
  all_goals dsimp only
  all_goals try simp only [Dat.dec, Leaf.val, Z0, Z1, Z2, Z3, Z4, Z5, Z6, Z7, val_sl] at *
  all_goals try first
    | exact (List.length_set ..).symm
    | (rw [setP_any, if_pos ⟨by assumption, by omega⟩]; done)
    | (rw [setP_any, if_neg (fun z => absurd z.1 (by assumption))]; done)
    | exact setP_bif2 (fun p => p.vm.at_) rfl (by omega)
    | exact setP_bif2 (fun p => p.vm.halts) rfl (by omega)
    | exact setP_bif2 (fun p => p.vm.fault) rfl (by omega)
    | exact setP_bif2 (fun p => p.box.length) (List.length_append ..) (by omega)
    | exact setP_bif2 (fun p => p.box.getD _ Dat.d0) getD_appB (by omega)
  all_goals fail
def putC_R (r : Th (Module × Int)) : AV := .tup [.agg [.i .i64 fun _ => (r ()).1.table.frame, Leaf.av fun _ => (r ()).1.table.windows, Leaf.av fun _ => (r ()).1.parts, Leaf.av fun _ => (r ()).1.wires, .i .i64 fun _ => (r ()).1.now, .i .i64 fun _ => (r ()).1.lost], .i .i64 fun _ => (r ()).2]
def putC_P (m : Module) (i : Int) (l : (List Int)) : Prop := mchkC_P m ∧ l.length ≤ 9223372036854775807
def putC_D : Det := fun A => match A with
  | [.agg m, .i .i64 i, l] => some (fun _ => Dat.ok Module m ∧ Leaf.ok (List Int) l ∧ putC_P (Dat.dec m) (i ()) (Leaf.val l), putC_R fun _ => putV (Dat.dec m) (i ()) (Leaf.val l))
  | _ => none
theorem putC_vc (m : Module) (i : Int) (l : List Int) (hp : mchkC_P m ∧ l.length ≤ 9223372036854775807) : FnOk Try.prog 30 [.agg (Dat.enc fun _ => m), .i .i64 fun _ => i, .sl 1 (fun _ => l.length) fun k => Dat.enc fun _ => l.getD (k ()) Dat.d0] [] (outA (putC_R fun _ => putV m i l) []) := by
  refine FnOk.froz (puto_vc m i l hp.1 hp.2 _ rfl) rfl (q := _) (d := _) rfl (by intro p hp; repeat (first | (cases hp; done) | (rcases List.mem_cons.1 hp with rfl | hp; · exact Nat.le_refl _))) rfl ?_
  cbv
  repeat' first | (refine Stp.mk ?_; cbv) | (refine Gen.mk fun r hr => ?_; (try simp only [Dat.ok, Dat.dec, Leaf.ok, Leaf.val, Z0, Z1, Z2, Z3, Z4, Z5, Z6, Z7, val_sl, val_nil] at hr); cbv) | exact trivial | rfl | refine Both.mk ?_ ?_ | (refine Imp.mk fun h => ?_; (try dsimp only at h); (try simp only [nc, Int.toNat_natCast, ne_eq, zz] at h); (try simp only [nc] at h)) | refine Ob.mk ?_ ?_ | refine Chk.mk (by kernel_rfl) ?_ | refine Eq'.mk ?_ | (refine AllN.mk fun i hi => ?_; cbv) | (refine AllC.mk fun c hc hcm => ?_; (try dsimp only at hc); cbv) | (refine AllS.mk fun r hr => ?_; (try simp only [Dat.ok, Dat.dec, Leaf.ok, Leaf.val, Z0, Z1, Z2, Z3, Z4, Z5, Z6, Z7, val_sl] at hr); cbv)
  all_goals fail
theorem putC_ok : PcOk Try.prog 30 (detPC putC_D) := det_okA fun A p r h hp0 => by
  unfold putC_D at h
  split at h
  · rename_i m i l
    cases h
    obtain ⟨g0, g1, hp⟩ := hp0
    exact ⟨rfl, FnOk.pre (A' := [.agg (Dat.enc fun _ => (Dat.dec m : Module)), .i .i64 fun _ => i (), Leaf.av fun _ => (Leaf.val l : (List Int))]) (putC_vc (Dat.dec m) (i ()) (Leaf.val l) hp) (.mk (Dat.hle _ g0) (.mk (.mk (.mk rfl) (.mk rfl)) (.mk (Leaf.hle _ g1) (trivial))))⟩
  · cases h

end Go.Proofs.Ytbnpacdkllmblaa
