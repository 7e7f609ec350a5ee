/- The functions of package table that only read, walked. -/
import Derived.Test.YtnjngpjkhddnfaaGreatDoorSpan
set_option linter.all false
namespace Go.Proofs.YtnjngpjkhddnfaaGreatDoor
open Go Go.Abs

def winB (f e : Int) (w : Window) : Bool := decide (0 ≤ w.owner ∧ w.owner < 16 ∧ e ≤ w.frm ∧ w.frm ≤ f ∧ 1 ≤ w.long ∧ w.long ≤ f - w.frm)
def okW (f : Int) : Int → List Window → Bool
 | _, [] => true
 | e, w :: r => winB f e w && okW f (w.frm + w.long) r
def wchkV (t : Table) : Int := if sizeB t.frame = true then (if 200 < t.windows.length then 2 else if okW t.frame 0 t.windows = true then 0 else 4) else 1
structure RightT (t : Table) : Prop where
 s1 : 1 ≤ t.frame
 s2 : t.frame ≤ 1000000
 len : t.windows.length ≤ 200
 ok : okW t.frame 0 t.windows = true
theorem wchk_iff {t : Table} : wchkV t = 0 ↔ RightT t := by
 unfold wchkV
 by_cases h1 : sizeB t.frame = true
 · have hb : 1 ≤ t.frame ∧ t.frame ≤ 1000000 := by simpa [sizeB] using h1
   rw [if_pos h1]
   by_cases h2 : 200 < t.windows.length
   · rw [if_pos h2]; exact ⟨fun h => absurd h (by decide), fun h => absurd h.len (by omega)⟩
   · rw [if_neg h2]
     by_cases h3 : okW t.frame 0 t.windows = true
     · rw [if_pos h3]; exact ⟨fun _ => ⟨hb.1, hb.2, by omega, h3⟩, fun _ => rfl⟩
     · rw [if_neg h3]; exact ⟨fun h => absurd h (by decide), fun h => absurd h.ok h3⟩
 · rw [if_neg h1]
   exact ⟨fun h => absurd h (by decide), fun h => absurd (show sizeB t.frame = true by have a := h.s1; have b := h.s2; simp [sizeB, a, b]) h1⟩
theorem winB_iff {f e : Int} {w : Window} : winB f e w = true ↔ (0 ≤ w.owner ∧ w.owner < 16 ∧ e ≤ w.frm ∧ w.frm ≤ f ∧ 1 ≤ w.long ∧ w.long ≤ f - w.frm) := by simp [winB]
theorem okW_drop {f e : Int} {l : List Window} {k : Nat} (hk : k < l.length) : okW f e (l.drop k) = (winB f e (l.getD k Dat.d0) && okW f ((l.getD k Dat.d0).frm + (l.getD k Dat.d0).long) (l.drop (k + 1))) := by
 rw [drop_cons Dat.d0 hk, okW]
theorem okW_all {f : Int} : ∀ {l : List Window} {e : Int}, 0 ≤ e → okW f e l = true → ∀ w ∈ l, winB f e w = true
 | [], _, _, _ => by simp
 | x :: r, e, he, h => by
   rw [okW, Bool.and_eq_true] at h
   have hx := winB_iff.1 h.1
   intro w hw
   rcases List.mem_cons.1 hw with rfl | hw
   · exact h.1
   · have := winB_iff.1 (okW_all (by omega) h.2 w hw)
     exact winB_iff.2 (by omega)
theorem okW_get {t : Table} (h : RightT t) {k : Nat} (hk : k < t.windows.length) : 0 ≤ (t.windows.getD k Dat.d0).owner ∧ (t.windows.getD k Dat.d0).owner < 16 ∧ 0 ≤ (t.windows.getD k Dat.d0).frm ∧ (t.windows.getD k Dat.d0).frm ≤ t.frame ∧ 1 ≤ (t.windows.getD k Dat.d0).long ∧ (t.windows.getD k Dat.d0).long ≤ t.frame - (t.windows.getD k Dat.d0).frm := by
 refine winB_iff.1 (okW_all (Int.le_refl 0) h.ok _ ?_)
 rw [List.getD_eq_getElem?_getD, List.getElem?_eq_getElem hk]
 exact List.getElem_mem hk
def atW (f x : Int) : List Window → Int × Int
 | [] => (-1, f)
 | w :: r => if x < w.frm then (-1, w.frm) else if x < w.frm + w.long then (w.owner, w.frm + w.long) else atW f x r
def ownB (n : Int) : Bool := decide (0 ≤ n ∧ n < 16)
def wown_R (r : Th (Bool)) : AV := .b fun _ => (r ())
def wown_D : Det := fun A => match A with
 | [.i .i64 n] => some (fun _ => True, wown_R fun _ => ownB (n ()))
 | _ => none
set_option maxRecDepth 100000 in
set_option maxHeartbeats 4000000 in
theorem wown_vc (n : Int) : FnOk Tryz.prog 43 [.i .i64 fun _ => n] [] (outA (wown_R fun _ => ownB n) []) := by
 refine fn_ok envOk zl noCon_ok noDraws_ok (keep := [0, 2]) Tryz.func43 rfl ?_
 cbv
 repeat' first | (refine Stp.mk ?_; cbv) | (refine Gen.mk fun r hr => ?_; (try simp only [Dat.ok, Dat.dec, Leaf.ok, Leaf.val, Z0, Z1, Z2, Z3, Z4, Z5, Z6, Z7, val_sl, val_nil] at hr); cbv) | exact trivial | rfl | refine Both.mk ?_ ?_ | (refine Imp.mk fun h => ?_; (try dsimp only at h); (try simp only [nc, Int.toNat_natCast, ne_eq, zz] at h); (try simp only [nc] at h)) | refine Ob.mk ?_ ?_ | refine Chk.mk (by kernel_rfl) ?_ | refine Eq'.mk ?_ | (refine AllN.mk fun i hi => ?_; cbv) | (refine AllC.mk fun c hc hcm => ?_; (try dsimp only at hc); cbv) | (refine AllS.mk fun r hr => ?_; (try simp only [Dat.ok, Dat.dec, Leaf.ok, Leaf.val, Z0, Z1, Z2, Z3, Z4, Z5, Z6, Z7, val_sl] at hr); cbv)
 all_goals ((try dsimp only at *); (try simp only [nc, Int.toNat_natCast, ne_eq, zz] at *); (try simp only [nc] at *))
 all_goals simp_all [ownB]
 all_goals omega
theorem wown_ok : PcOk Tryz.prog 43 (detPC wown_D) := det_okA fun A p r h hp0 => by
 unfold wown_D at h
 split at h
 · rename_i n
   cases h
   exact ⟨rfl, FnOk.pre (A' := [.i .i64 fun _ => n ()]) (wown_vc (n ())) (.mk (.mk (.mk rfl) (.mk rfl)) (trivial))⟩
 · cases h
def wfrm_R (r : Th (Bool)) : AV := .b fun _ => (r ())
def wfrm_D : Det := fun A => match A with
 | [.i .i64 n] => some (fun _ => True, wfrm_R fun _ => sizeB (n ()))
 | _ => none
set_option maxRecDepth 100000 in
set_option maxHeartbeats 4000000 in
theorem wfrm_vc (n : Int) : FnOk Tryz.prog 37 [.i .i64 fun _ => n] [] (outA (wfrm_R fun _ => sizeB n) []) := by
 refine fn_ok envOk zl noCon_ok noDraws_ok (keep := [0, 2]) Tryz.func37 rfl ?_
 cbv
 repeat' first | (refine Stp.mk ?_; cbv) | (refine Gen.mk fun r hr => ?_; (try simp only [Dat.ok, Dat.dec, Leaf.ok, Leaf.val, Z0, Z1, Z2, Z3, Z4, Z5, Z6, Z7, val_sl, val_nil] at hr); cbv) | exact trivial | rfl | refine Both.mk ?_ ?_ | (refine Imp.mk fun h => ?_; (try dsimp only at h); (try simp only [nc, Int.toNat_natCast, ne_eq, zz] at h); (try simp only [nc] at h)) | refine Ob.mk ?_ ?_ | refine Chk.mk (by kernel_rfl) ?_ | refine Eq'.mk ?_ | (refine AllN.mk fun i hi => ?_; cbv) | (refine AllC.mk fun c hc hcm => ?_; (try dsimp only at hc); cbv) | (refine AllS.mk fun r hr => ?_; (try simp only [Dat.ok, Dat.dec, Leaf.ok, Leaf.val, Z0, Z1, Z2, Z3, Z4, Z5, Z6, Z7, val_sl] at hr); cbv)
 all_goals ((try dsimp only at *); (try simp only [nc, Int.toNat_natCast, ne_eq, zz] at *); (try simp only [nc] at *))
 all_goals simp_all [sizeB]
 all_goals omega
theorem wfrm_ok : PcOk Tryz.prog 37 (detPC wfrm_D) := det_okA fun A p r h hp0 => by
 unfold wfrm_D at h
 split at h
 · rename_i n
   cases h
   exact ⟨rfl, FnOk.pre (A' := [.i .i64 fun _ => n ()]) (wfrm_vc (n ())) (.mk (.mk (.mk rfl) (.mk rfl)) (trivial))⟩
 · cases h
structure WcX (t : Table) where
 k : Nat
 e : Int
 hk : k ≤ t.windows.length
 e0 : 0 ≤ e
 e1 : e ≤ t.frame
 hr : okW t.frame 0 t.windows = okW t.frame e (t.windows.drop k)
def wchk_R (r : Th (Int)) : AV := .i .i64 fun _ => (r ())
def wchk_P (t : Table) : Prop := t.windows.length ≤ 9223372036854775807
def wchk_D : Det := fun A => match A with
 | [.agg t] => some (fun _ => Dat.ok Table t ∧ wchk_P (Dat.dec t), wchk_R fun _ => wchkV (Dat.dec t))
 | _ => none
noncomputable def cWc : FuncId → Con := fun f => match f with
 | 43 => pureCon (detPC wown_D)
 | 37 => pureCon (detPC wfrm_D)
 | _ => fun _ _ _ => Bad 1001
theorem cWc_ok : ConOk Tryz.prog cWc := fun f A H K h => by
 unfold cWc at h
 split at h
 · exact ⟨⟨Tryz.f43, Tryz.func43, by kernel_rfl, by kernel_rfl⟩, pureCon_ok wown_ok h⟩
 · exact ⟨⟨Tryz.f37, Tryz.func37, by kernel_rfl, by kernel_rfl⟩, pureCon_ok wfrm_ok h⟩
 · cases h
set_option maxRecDepth 100000 in
set_option maxHeartbeats 4000000 in
theorem wchk_vc (t : Table) (hp : wchk_P t) : FnOk Tryz.prog 42 [.agg (Dat.enc fun _ => t)] [] (outA (wchk_R fun _ => wchkV t) []) := by
 refine fn_ok envOk zl cWc_ok noDraws_ok (keep := [0, 1, 2, 3, 5, 9, 13, 15, 16, 17, 18, 52]) Tryz.func42 rfl ?_
 have hp' : t.windows.length ≤ 9223372036854775807 := hp
 have fin : ∀ e H kl, wchkV t = e → outA (wchk_R fun _ => wchkV t) [] (.i .i64 fun _ => e) H kl := by
   rintro e H kl rfl
   cbv
   repeat' first | (refine Stp.mk ?_; cbv) | (refine Gen.mk fun r hr => ?_; (try simp only [Dat.ok, Dat.dec, Leaf.ok, Leaf.val, Z0, Z1, Z2, Z3, Z4, Z5, Z6, Z7, val_sl, val_nil] at hr); cbv) | exact trivial | rfl | refine Both.mk ?_ ?_ | (refine Imp.mk fun h => ?_; (try dsimp only at h); (try simp only [nc, Int.toNat_natCast, ne_eq, zz] at h); (try simp only [nc] at h)) | refine Ob.mk ?_ ?_ | refine Chk.mk (by kernel_rfl) ?_ | refine Eq'.mk ?_ | (refine AllN.mk fun i hi => ?_; cbv) | (refine AllC.mk fun c hc hcm => ?_; (try dsimp only at hc); cbv) | (refine AllS.mk fun r hr => ?_; (try simp only [Dat.ok, Dat.dec, Leaf.ok, Leaf.val, Z0, Z1, Z2, Z3, Z4, Z5, Z6, Z7, val_sl] at hr); cbv)
 generalize outA (wchk_R fun _ => wchkV t) [] = K at fin ⊢
 cbv
 repeat' first | (show Stp _; exfalso; first | omega | (exact h ‹_›) | (exact absurd ‹_› h) | (exact Bool.false_ne_true (h.symm.trans (show _ = true by assumption)))) | (refine Stp.mk ?_; cbv) | (refine Gen.mk fun r hr => ?_; (try simp only [Dat.ok, Dat.dec, Leaf.ok, Leaf.val, Z0, Z1, Z2, Z3, Z4, Z5, Z6, Z7, val_sl, val_nil] at hr); cbv) | exact trivial | rfl | refine Both.mk ?_ ?_ | (refine Imp.mk fun h => ?_; (try dsimp only at h); (try simp only [nc, Int.toNat_natCast, ne_eq, zz] at h); (try simp only [nc] at h)) | refine Ob.mk ?_ ?_ | refine Chk.mk (by kernel_rfl) ?_ | refine Eq'.mk ?_ | (refine AllN.mk fun i hi => ?_; cbv) | (refine AllC.mk fun c hc hcm => ?_; (try dsimp only at hc); cbv) | (refine AllS.mk fun r hr => ?_; (try simp only [Dat.ok, Dat.dec, Leaf.ok, Leaf.val, Z0, Z1, Z2, Z3, Z4, Z5, Z6, Z7, val_sl] at hr); cbv)
 all_goals ((try dsimp only at *); (try simp only [nc, Int.toNat_natCast, ne_eq, zz] at *); (try simp only [nc] at *))
 all_goals first
   | (refine fin _ _ _ ?_
      first
        | (rw [wchkV, if_neg (by simp_all)]; done)
        | (rw [wchkV, if_pos (by simp_all), if_pos (by omega)]; done))
   | skip
 all_goals have hs : sizeB t.frame = true := by assumption
 have hs2 : 1 ≤ t.frame ∧ t.frame ≤ 1000000 := by simpa [sizeB] using hs
 refine LoopVC.frame [2, 3, 5, 17, 18, 52] (WcX t) (fun x => [(17, .i .i64 fun _ => x.k), (3, .i .i64 fun _ => x.e)]) (fun _ => []) [] (fun x => t.windows.length - x.k) ⟨0, 0, Nat.zero_le _, Int.le_refl _, by omega, by simp⟩ rfl (fun _ => rfl) ?_ ?_ fun ⟨k, e, hk, e0, e1, hr⟩ => ?_
 iterate 2
   · cbv
     repeat' first | (refine Stp.mk ?_; cbv) | (refine Gen.mk fun r hr => ?_; (try simp only [Dat.ok, Dat.dec, Leaf.ok, Leaf.val, Z0, Z1, Z2, Z3, Z4, Z5, Z6, Z7, val_sl, val_nil] at hr); cbv) | exact trivial | rfl | refine Both.mk ?_ ?_ | (refine Imp.mk fun h => ?_; (try dsimp only at h); (try simp only [nc, Int.toNat_natCast, ne_eq, zz] at h); (try simp only [nc] at h)) | refine Ob.mk ?_ ?_ | refine Chk.mk (by kernel_rfl) ?_ | refine Eq'.mk ?_ | (refine AllN.mk fun i hi => ?_; cbv) | (refine AllC.mk fun c hc hcm => ?_; (try dsimp only at hc); cbv) | (refine AllS.mk fun r hr => ?_; (try simp only [Dat.ok, Dat.dec, Leaf.ok, Leaf.val, Z0, Z1, Z2, Z3, Z4, Z5, Z6, Z7, val_sl] at hr); cbv)
 · cbv
   repeat' first | (show Stp _; exfalso; first | omega | (exact h ‹_›) | (exact absurd ‹_› h) | (exact Bool.false_ne_true (h.symm.trans (show _ = true by assumption)))) | (refine Stp.mk ?_; cbv) | (refine Gen.mk fun r hr => ?_; (try simp only [Dat.ok, Dat.dec, Leaf.ok, Leaf.val, Z0, Z1, Z2, Z3, Z4, Z5, Z6, Z7, val_sl, val_nil] at hr); cbv) | exact trivial | rfl | refine Both.mk ?_ ?_ | (refine Imp.mk fun h => ?_; (try dsimp only at h); (try simp only [nc, Int.toNat_natCast, ne_eq, zz] at h); (try simp only [nc] at h)) | refine Ob.mk ?_ ?_ | refine Chk.mk (by kernel_rfl) ?_ | refine Eq'.mk ?_ | (refine AllN.mk fun i hi => ?_; cbv) | (refine AllC.mk fun c hc hcm => ?_; (try dsimp only at hc); cbv) | (refine AllS.mk fun r hr => ?_; (try simp only [Dat.ok, Dat.dec, Leaf.ok, Leaf.val, Z0, Z1, Z2, Z3, Z4, Z5, Z6, Z7, val_sl] at hr); cbv)
   all_goals ((try dsimp only at *); (try simp only [nc, Int.toNat_natCast, ne_eq, zz] at *); (try simp only [nc] at *))
   all_goals try rw [nc] at *
   all_goals try (have how := (by assumption : ownB (t.windows.getD k Dat.d0).owner = true); simp only [ownB, decide_eq_true_eq] at how)
   all_goals first
     | omega
     | exact ⟨by omega, by omega⟩
     | (unfold InR; omega)
     | (have hk2 : k < t.windows.length := by omega
        have hw : winB t.frame e (t.windows.getD k Dat.d0) = true := winB_iff.2 (by omega)
        refine ⟨⟨k + 1, (t.windows.getD k Dat.d0).frm + (t.windows.getD k Dat.d0).long, by omega, by omega, by omega, by rw [hr, okW_drop hk2, hw, Bool.true_and]⟩, ?_, ?_, rfl, by (try dsimp only); omega⟩
        · cbv
          repeat' first | (refine Stp.mk ?_; cbv) | (refine Gen.mk fun r hr => ?_; (try simp only [Dat.ok, Dat.dec, Leaf.ok, Leaf.val, Z0, Z1, Z2, Z3, Z4, Z5, Z6, Z7, val_sl, val_nil] at hr); cbv) | exact trivial | rfl | refine Both.mk ?_ ?_ | (refine Imp.mk fun h => ?_; (try dsimp only at h); (try simp only [nc, Int.toNat_natCast, ne_eq, zz] at h); (try simp only [nc] at h)) | refine Ob.mk ?_ ?_ | refine Chk.mk (by kernel_rfl) ?_ | refine Eq'.mk ?_ | (refine AllN.mk fun i hi => ?_; cbv) | (refine AllC.mk fun c hc hcm => ?_; (try dsimp only at hc); cbv) | (refine AllS.mk fun r hr => ?_; (try simp only [Dat.ok, Dat.dec, Leaf.ok, Leaf.val, Z0, Z1, Z2, Z3, Z4, Z5, Z6, Z7, val_sl] at hr); cbv)
        · cbv
          repeat' first | (refine Stp.mk ?_; cbv) | (refine Gen.mk fun r hr => ?_; (try simp only [Dat.ok, Dat.dec, Leaf.ok, Leaf.val, Z0, Z1, Z2, Z3, Z4, Z5, Z6, Z7, val_sl, val_nil] at hr); cbv) | exact trivial | rfl | refine Both.mk ?_ ?_ | (refine Imp.mk fun h => ?_; (try dsimp only at h); (try simp only [nc, Int.toNat_natCast, ne_eq, zz] at h); (try simp only [nc] at h)) | refine Ob.mk ?_ ?_ | refine Chk.mk (by kernel_rfl) ?_ | refine Eq'.mk ?_ | (refine AllN.mk fun i hi => ?_; cbv) | (refine AllC.mk fun c hc hcm => ?_; (try dsimp only at hc); cbv) | (refine AllS.mk fun r hr => ?_; (try simp only [Dat.ok, Dat.dec, Leaf.ok, Leaf.val, Z0, Z1, Z2, Z3, Z4, Z5, Z6, Z7, val_sl] at hr); cbv))
     | (have hk2 : k < t.windows.length := by omega
        have hw : winB t.frame e (t.windows.getD k Dat.d0) = false := by
          unfold winB
          first
            | exact decide_eq_false (by omega)
            | (have ho := (by assumption : ownB (t.windows.getD k Dat.d0).owner = false)
               simp only [ownB, decide_eq_false_iff_not] at ho
               exact decide_eq_false (by omega))
        refine fin _ _ _ ?_
        rw [wchkV, if_pos hs, if_neg (by omega), if_neg (by rw [hr, okW_drop hk2, hw, Bool.false_and]; decide)])
     | (refine fin _ _ _ ?_
        rw [wchkV, if_pos hs, if_neg (by omega), if_pos (by rw [hr, List.drop_eq_nil_of_le (by omega), okW])])
     | fail
theorem wchk_ok : PcOk Tryz.prog 42 (detPC wchk_D) := det_okA fun A p r h hp0 => by
 unfold wchk_D at h
 split at h
 · rename_i t
   cases h
   obtain ⟨g0, hp⟩ := hp0
   exact ⟨rfl, FnOk.pre (A' := [.agg (Dat.enc fun _ => (Dat.dec t : Table))]) (wchk_vc (Dat.dec t) hp) (.mk (Dat.hle _ g0) (trivial))⟩
 · cases h

end Go.Proofs.YtnjngpjkhddnfaaGreatDoor
