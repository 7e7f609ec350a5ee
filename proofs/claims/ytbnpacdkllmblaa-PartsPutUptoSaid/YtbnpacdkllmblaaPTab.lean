/- The functions of package table that only read, walked (beside those of package vm). -/
import Derived.Test.YtbnpacdkllmblaaRun
set_option linter.all false
namespace Go.Proofs.Ytbnpacdkllmblaa
open Go Go.Abs

def sizeB (n : Int) : Bool := decide (1 ≤ n ∧ n ≤ 1000000)
def tinB (f e : Int) (w : Window) : Bool := decide (0 ≤ w.owner ∧ w.owner < 16 ∧ e ≤ w.frm ∧ w.frm ≤ f ∧ 1 ≤ w.long ∧ w.long ≤ f - w.frm)
def okW (f : Int) : Int → List Window → Bool
  | _, [] => true
  | e, w :: r => tinB f e w && okW f (w.frm + w.long) r
def wchkV (t : Table) : Int := if sizeB t.frame = true then (if 200 < t.windows.length then 2 else if okW t.frame 0 t.windows = true then 0 else 4) else 1
structure RightT (t : Table) : Prop where
  s1 : 1 ≤ t.frame
  s2 : t.frame ≤ 1000000
  len : t.windows.length ≤ 200
  ok : okW t.frame 0 t.windows = true
theorem wchk_iff {t : Table} : wchkV t = 0 ↔ RightT t := by
  unfold wchkV
  by_cases h1 : sizeB t.frame = true
  · have hb : 1 ≤ t.frame ∧ t.frame ≤ 1000000 := by simpa [sizeB] using h1
    rw [if_pos h1]
    by_cases h2 : 200 < t.windows.length
    · rw [if_pos h2]; exact ⟨fun h => absurd h (by decide), fun h => absurd h.len (by omega)⟩
    · rw [if_neg h2]
      by_cases h3 : okW t.frame 0 t.windows = true
      · rw [if_pos h3]; exact ⟨fun _ => ⟨hb.1, hb.2, by omega, h3⟩, fun _ => rfl⟩
      · rw [if_neg h3]; exact ⟨fun h => absurd h (by decide), fun h => absurd h.ok h3⟩
  · rw [if_neg h1]
    exact ⟨fun h => absurd h (by decide), fun h => absurd (show sizeB t.frame = true by have a := h.s1; have b := h.s2; simp [sizeB, a, b]) h1⟩
theorem tinB_iff {f e : Int} {w : Window} : tinB f e w = true ↔ (0 ≤ w.owner ∧ w.owner < 16 ∧ e ≤ w.frm ∧ w.frm ≤ f ∧ 1 ≤ w.long ∧ w.long ≤ f - w.frm) := by simp [tinB]
theorem okW_drop {f e : Int} {l : List Window} {k : Nat} (hk : k < l.length) : okW f e (l.drop k) = (tinB f e (l.getD k Dat.d0) && okW f ((l.getD k Dat.d0).frm + (l.getD k Dat.d0).long) (l.drop (k + 1))) := by
  rw [drop_cons Dat.d0 hk, okW]
theorem okW_all {f : Int} : ∀ {l : List Window} {e : Int}, 0 ≤ e → okW f e l = true → ∀ w ∈ l, tinB f e w = true
  | [], _, _, _ => by simp
  | x :: r, e, he, h => by
    rw [okW, Bool.and_eq_true] at h
    have hx := tinB_iff.1 h.1
    intro w hw
    rcases List.mem_cons.1 hw with rfl | hw
    · exact h.1
    · have := tinB_iff.1 (okW_all (by omega) h.2 w hw)
      exact tinB_iff.2 (by omega)
theorem okW_get {t : Table} (h : RightT t) {k : Nat} (hk : k < t.windows.length) : 0 ≤ (t.windows.getD k Dat.d0).owner ∧ (t.windows.getD k Dat.d0).owner < 16 ∧ 0 ≤ (t.windows.getD k Dat.d0).frm ∧ (t.windows.getD k Dat.d0).frm ≤ t.frame ∧ 1 ≤ (t.windows.getD k Dat.d0).long ∧ (t.windows.getD k Dat.d0).long ≤ t.frame - (t.windows.getD k Dat.d0).frm := by
  refine tinB_iff.1 (okW_all (Int.le_refl 0) h.ok _ ?_)
  rw [List.getD_eq_getElem?_getD, List.getElem?_eq_getElem hk]
  exact List.getElem_mem hk
def atW (f x : Int) : List Window → Int × Int
  | [] => (-1, f)
  | w :: r => if x < w.frm then (-1, w.frm) else if x < w.frm + w.long then (w.owner, w.frm + w.long) else atW f x r
def atV (t : Table) (x : Int) : Int × Int := atW t.frame x t.windows
theorem at_drop {f x : Int} {l : List Window} {k : Nat} (hk : k < l.length) : atW f x (l.drop k) = if x < (l.getD k Dat.d0).frm then (-1, (l.getD k Dat.d0).frm) else if x < (l.getD k Dat.d0).frm + (l.getD k Dat.d0).long then ((l.getD k Dat.d0).owner, (l.getD k Dat.d0).frm + (l.getD k Dat.d0).long) else atW f x (l.drop (k + 1)) := by
  rw [drop_cons Dat.d0 hk, atW]
def ownB (n : Int) : Bool := decide (0 ≤ n ∧ n < 16)
def wown_R (r : Th (Bool)) : AV := .b fun _ => (r ())
def wown_D : Det := fun A => match A with
  | [.i .i64 n] => some (fun _ => True, wown_R fun _ => ownB (n ()))
  | _ => none
set_option maxRecDepth 100000 in
set_option maxHeartbeats 4000000 in
theorem wown_vc (n : Int) : FnOk Try.prog 43 [.i .i64 fun _ => n] [] (outA (wown_R fun _ => ownB n) []) := by
  refine fn_ok envOk zl noCon_ok noDraws_ok (keep := [0, 2]) Try.func43 rfl ?_
  cbv
  repeat' first | (refine Stp.mk ?_; cbv) | (refine Gen.mk fun r hr => ?_; (try simp only [Dat.ok, Dat.dec, Leaf.ok, Leaf.val, Z0, Z1, Z2, Z3, Z4, Z5, Z6, Z7, val_sl, val_nil] at hr); cbv) | exact trivial | rfl | refine Both.mk ?_ ?_ | (refine Imp.mk fun h => ?_; (try dsimp only at h); (try simp only [nc, Int.toNat_natCast, ne_eq, zz] at h); (try simp only [nc] at h)) | refine Ob.mk ?_ ?_ | refine Chk.mk (by kernel_rfl) ?_ | refine Eq'.mk ?_ | (refine AllN.mk fun i hi => ?_; cbv) | (refine AllC.mk fun c hc hcm => ?_; (try dsimp only at hc); cbv) | (refine AllS.mk fun r hr => ?_; (try simp only [Dat.ok, Dat.dec, Leaf.ok, Leaf.val, Z0, Z1, Z2, Z3, Z4, Z5, Z6, Z7, val_sl] at hr); cbv)
  all_goals ((try dsimp only at *); (try simp only [nc, Int.toNat_natCast, ne_eq, zz] at *); (try simp only [nc] at *))
  all_goals simp_all [ownB]
  all_goals omega
theorem wown_ok : PcOk Try.prog 43 (detPC wown_D) := det_okA fun A p r h hp0 => by
  unfold wown_D at h
  split at h
  · rename_i n
    cases h
    exact ⟨rfl, FnOk.pre (A' := [.i .i64 fun _ => n ()]) (wown_vc (n ())) (.mk (.mk (.mk rfl) (.mk rfl)) (trivial))⟩
  · cases h
def wfrm_R (r : Th (Bool)) : AV := .b fun _ => (r ())
def wfrm_D : Det := fun A => match A with
  | [.i .i64 n] => some (fun _ => True, wfrm_R fun _ => sizeB (n ()))
  | _ => none
set_option maxRecDepth 100000 in
set_option maxHeartbeats 4000000 in
theorem wfrm_vc (n : Int) : FnOk Try.prog 42 [.i .i64 fun _ => n] [] (outA (wfrm_R fun _ => sizeB n) []) := by
  refine fn_ok envOk zl noCon_ok noDraws_ok (keep := [0, 2]) Try.func42 rfl ?_
  cbv
  repeat' first | (refine Stp.mk ?_; cbv) | (refine Gen.mk fun r hr => ?_; (try simp only [Dat.ok, Dat.dec, Leaf.ok, Leaf.val, Z0, Z1, Z2, Z3, Z4, Z5, Z6, Z7, val_sl, val_nil] at hr); cbv) | exact trivial | rfl | refine Both.mk ?_ ?_ | (refine Imp.mk fun h => ?_; (try dsimp only at h); (try simp only [nc, Int.toNat_natCast, ne_eq, zz] at h); (try simp only [nc] at h)) | refine Ob.mk ?_ ?_ | refine Chk.mk (by kernel_rfl) ?_ | refine Eq'.mk ?_ | (refine AllN.mk fun i hi => ?_; cbv) | (refine AllC.mk fun c hc hcm => ?_; (try dsimp only at hc); cbv) | (refine AllS.mk fun r hr => ?_; (try simp only [Dat.ok, Dat.dec, Leaf.ok, Leaf.val, Z0, Z1, Z2, Z3, Z4, Z5, Z6, Z7, val_sl] at hr); cbv)
  all_goals ((try dsimp only at *); (try simp only [nc, Int.toNat_natCast, ne_eq, zz] at *); (try simp only [nc] at *))
  all_goals simp_all [sizeB]
  all_goals omega
theorem wfrm_ok : PcOk Try.prog 42 (detPC wfrm_D) := det_okA fun A p r h hp0 => by
  unfold wfrm_D at h
  split at h
  · rename_i n
    cases h
    exact ⟨rfl, FnOk.pre (A' := [.i .i64 fun _ => n ()]) (wfrm_vc (n ())) (.mk (.mk (.mk rfl) (.mk rfl)) (trivial))⟩
  · cases h
structure WcX (t : Table) where
  k : Nat
  e : Int
  hk : k ≤ t.windows.length
  e0 : 0 ≤ e
  e1 : e ≤ t.frame
  hr : okW t.frame 0 t.windows = okW t.frame e (t.windows.drop k)
def wchk_R (r : Th (Int)) : AV := .i .i64 fun _ => (r ())
def wchk_P (t : Table) : Prop := t.windows.length ≤ 9223372036854775807
def wchk_D : Det := fun A => match A with
  | [.agg t] => some (fun _ => Dat.ok Table t ∧ wchk_P (Dat.dec t), wchk_R fun _ => wchkV (Dat.dec t))
  | _ => none
noncomputable def cWc : FuncId → Con := fun f => match f with
  | 43 => pureCon (detPC wown_D)
  | 42 => pureCon (detPC wfrm_D)
  | _ => fun _ _ _ => Bad 1001
theorem cWc_ok : ConOk Try.prog cWc := fun f A H K h => by
  unfold cWc at h
  split at h
  · exact ⟨⟨Try.f43, Try.func43, by kernel_rfl, by kernel_rfl⟩, pureCon_ok wown_ok h⟩
  · exact ⟨⟨Try.f42, Try.func42, by kernel_rfl, by kernel_rfl⟩, pureCon_ok wfrm_ok h⟩
  · cases h
set_option maxRecDepth 100000 in
set_option maxHeartbeats 4000000 in
theorem wchk_vc (t : Table) (hp : wchk_P t) : FnOk Try.prog 34 [.agg (Dat.enc fun _ => t)] [] (outA (wchk_R fun _ => wchkV t) []) := by
  refine fn_ok envOk zl cWc_ok noDraws_ok (keep := [0, 1, 2, 3, 5, 9, 13, 15, 16, 17, 18, 52]) Try.func34 rfl ?_
  have hp' : t.windows.length ≤ 9223372036854775807 := hp
  have fin : ∀ e H kl, wchkV t = e → outA (wchk_R fun _ => wchkV t) [] (.i .i64 fun _ => e) H kl := by
    rintro e H kl rfl
    cbv
    repeat' first | (refine Stp.mk ?_; cbv) | (refine Gen.mk fun r hr => ?_; (try simp only [Dat.ok, Dat.dec, Leaf.ok, Leaf.val, Z0, Z1, Z2, Z3, Z4, Z5, Z6, Z7, val_sl, val_nil] at hr); cbv) | exact trivial | rfl | refine Both.mk ?_ ?_ | (refine Imp.mk fun h => ?_; (try dsimp only at h); (try simp only [nc, Int.toNat_natCast, ne_eq, zz] at h); (try simp only [nc] at h)) | refine Ob.mk ?_ ?_ | refine Chk.mk (by kernel_rfl) ?_ | refine Eq'.mk ?_ | (refine AllN.mk fun i hi => ?_; cbv) | (refine AllC.mk fun c hc hcm => ?_; (try dsimp only at hc); cbv) | (refine AllS.mk fun r hr => ?_; (try simp only [Dat.ok, Dat.dec, Leaf.ok, Leaf.val, Z0, Z1, Z2, Z3, Z4, Z5, Z6, Z7, val_sl] at hr); cbv)
  generalize outA (wchk_R fun _ => wchkV t) [] = K at fin ⊢
  cbv
  repeat' first | (show Stp _; exfalso; first | omega | (exact h ‹_›) | (exact absurd ‹_› h) | (exact Bool.false_ne_true (h.symm.trans (show _ = true by assumption)))) | (refine Stp.mk ?_; cbv) | (refine Gen.mk fun r hr => ?_; (try simp only [Dat.ok, Dat.dec, Leaf.ok, Leaf.val, Z0, Z1, Z2, Z3, Z4, Z5, Z6, Z7, val_sl, val_nil] at hr); cbv) | exact trivial | rfl | refine Both.mk ?_ ?_ | (refine Imp.mk fun h => ?_; (try dsimp only at h); (try simp only [nc, Int.toNat_natCast, ne_eq, zz] at h); (try simp only [nc] at h)) | refine Ob.mk ?_ ?_ | refine Chk.mk (by kernel_rfl) ?_ | refine Eq'.mk ?_ | (refine AllN.mk fun i hi => ?_; cbv) | (refine AllC.mk fun c hc hcm => ?_; (try dsimp only at hc); cbv) | (refine AllS.mk fun r hr => ?_; (try simp only [Dat.ok, Dat.dec, Leaf.ok, Leaf.val, Z0, Z1, Z2, Z3, Z4, Z5, Z6, Z7, val_sl] at hr); cbv)
  all_goals ((try dsimp only at *); (try simp only [nc, Int.toNat_natCast, ne_eq, zz] at *); (try simp only [nc] at *))
  all_goals first
    | (refine fin _ _ _ ?_
       first
         | (rw [wchkV, if_neg (by simp_all)]; done)
         | (rw [wchkV, if_pos (by simp_all), if_pos (by omega)]; done))
    | skip
  all_goals have hs : sizeB t.frame = true := by assumption
  have hs2 : 1 ≤ t.frame ∧ t.frame ≤ 1000000 := by simpa [sizeB] using hs
  refine LoopVC.frame [2, 3, 5, 17, 18, 52] (WcX t) (fun x => [(17, .i .i64 fun _ => x.k), (3, .i .i64 fun _ => x.e)]) (fun _ => []) [] (fun x => t.windows.length - x.k) ⟨0, 0, Nat.zero_le _, Int.le_refl _, by omega, by simp⟩ rfl (fun _ => rfl) ?_ ?_ fun ⟨k, e, hk, e0, e1, hr⟩ => ?_
  iterate 2
    · cbv
      repeat' first | (refine Stp.mk ?_; cbv) | (refine Gen.mk fun r hr => ?_; (try simp only [Dat.ok, Dat.dec, Leaf.ok, Leaf.val, Z0, Z1, Z2, Z3, Z4, Z5, Z6, Z7, val_sl, val_nil] at hr); cbv) | exact trivial | rfl | refine Both.mk ?_ ?_ | (refine Imp.mk fun h => ?_; (try dsimp only at h); (try simp only [nc, Int.toNat_natCast, ne_eq, zz] at h); (try simp only [nc] at h)) | refine Ob.mk ?_ ?_ | refine Chk.mk (by kernel_rfl) ?_ | refine Eq'.mk ?_ | (refine AllN.mk fun i hi => ?_; cbv) | (refine AllC.mk fun c hc hcm => ?_; (try dsimp only at hc); cbv) | (refine AllS.mk fun r hr => ?_; (try simp only [Dat.ok, Dat.dec, Leaf.ok, Leaf.val, Z0, Z1, Z2, Z3, Z4, Z5, Z6, Z7, val_sl] at hr); cbv)
  · cbv
    repeat' first | (show Stp _; exfalso; first | omega | (exact h ‹_›) | (exact absurd ‹_› h) | (exact Bool.false_ne_true (h.symm.trans (show _ = true by assumption)))) | (refine Stp.mk ?_; cbv) | (refine Gen.mk fun r hr => ?_; (try simp only [Dat.ok, Dat.dec, Leaf.ok, Leaf.val, Z0, Z1, Z2, Z3, Z4, Z5, Z6, Z7, val_sl, val_nil] at hr); cbv) | exact trivial | rfl | refine Both.mk ?_ ?_ | (refine Imp.mk fun h => ?_; (try dsimp only at h); (try simp only [nc, Int.toNat_natCast, ne_eq, zz] at h); (try simp only [nc] at h)) | refine Ob.mk ?_ ?_ | refine Chk.mk (by kernel_rfl) ?_ | refine Eq'.mk ?_ | (refine AllN.mk fun i hi => ?_; cbv) | (refine AllC.mk fun c hc hcm => ?_; (try dsimp only at hc); cbv) | (refine AllS.mk fun r hr => ?_; (try simp only [Dat.ok, Dat.dec, Leaf.ok, Leaf.val, Z0, Z1, Z2, Z3, Z4, Z5, Z6, Z7, val_sl] at hr); cbv)
    all_goals ((try dsimp only at *); (try simp only [nc, Int.toNat_natCast, ne_eq, zz] at *); (try simp only [nc] at *))
    all_goals try rw [nc] at *
    all_goals try (have how := (by assumption : ownB (t.windows.getD k Dat.d0).owner = true); simp only [ownB, decide_eq_true_eq] at how)
    all_goals first
      | omega
      | exact ⟨by omega, by omega⟩
      | (unfold InR; omega)
      | (have hk2 : k < t.windows.length := by omega
         have hw : tinB t.frame e (t.windows.getD k Dat.d0) = true := tinB_iff.2 (by omega)
         refine ⟨⟨k + 1, (t.windows.getD k Dat.d0).frm + (t.windows.getD k Dat.d0).long, by omega, by omega, by omega, by rw [hr, okW_drop hk2, hw, Bool.true_and]⟩, ?_, ?_, rfl, by (try dsimp only); omega⟩
         · cbv
           repeat' first | (refine Stp.mk ?_; cbv) | (refine Gen.mk fun r hr => ?_; (try simp only [Dat.ok, Dat.dec, Leaf.ok, Leaf.val, Z0, Z1, Z2, Z3, Z4, Z5, Z6, Z7, val_sl, val_nil] at hr); cbv) | exact trivial | rfl | refine Both.mk ?_ ?_ | (refine Imp.mk fun h => ?_; (try dsimp only at h); (try simp only [nc, Int.toNat_natCast, ne_eq, zz] at h); (try simp only [nc] at h)) | refine Ob.mk ?_ ?_ | refine Chk.mk (by kernel_rfl) ?_ | refine Eq'.mk ?_ | (refine AllN.mk fun i hi => ?_; cbv) | (refine AllC.mk fun c hc hcm => ?_; (try dsimp only at hc); cbv) | (refine AllS.mk fun r hr => ?_; (try simp only [Dat.ok, Dat.dec, Leaf.ok, Leaf.val, Z0, Z1, Z2, Z3, Z4, Z5, Z6, Z7, val_sl] at hr); cbv)
         · cbv
           repeat' first | (refine Stp.mk ?_; cbv) | (refine Gen.mk fun r hr => ?_; (try simp only [Dat.ok, Dat.dec, Leaf.ok, Leaf.val, Z0, Z1, Z2, Z3, Z4, Z5, Z6, Z7, val_sl, val_nil] at hr); cbv) | exact trivial | rfl | refine Both.mk ?_ ?_ | (refine Imp.mk fun h => ?_; (try dsimp only at h); (try simp only [nc, Int.toNat_natCast, ne_eq, zz] at h); (try simp only [nc] at h)) | refine Ob.mk ?_ ?_ | refine Chk.mk (by kernel_rfl) ?_ | refine Eq'.mk ?_ | (refine AllN.mk fun i hi => ?_; cbv) | (refine AllC.mk fun c hc hcm => ?_; (try dsimp only at hc); cbv) | (refine AllS.mk fun r hr => ?_; (try simp only [Dat.ok, Dat.dec, Leaf.ok, Leaf.val, Z0, Z1, Z2, Z3, Z4, Z5, Z6, Z7, val_sl] at hr); cbv))
      | (have hk2 : k < t.windows.length := by omega
         have hw : tinB t.frame e (t.windows.getD k Dat.d0) = false := by
           unfold tinB
           first
             | exact decide_eq_false (by omega)
             | (have ho := (by assumption : ownB (t.windows.getD k Dat.d0).owner = false)
                simp only [ownB, decide_eq_false_iff_not] at ho
                exact decide_eq_false (by omega))
         refine fin _ _ _ ?_
         rw [wchkV, if_pos hs, if_neg (by omega), if_neg (by rw [hr, okW_drop hk2, hw, Bool.false_and]; decide)])
      | (refine fin _ _ _ ?_
         rw [wchkV, if_pos hs, if_neg (by omega), if_pos (by rw [hr, List.drop_eq_nil_of_le (by omega), okW])])
      | fail
theorem wchk_ok : PcOk Try.prog 34 (detPC wchk_D) := det_okA fun A p r h hp0 => by
  unfold wchk_D at h
  split at h
  · rename_i t
    cases h
    obtain ⟨g0, hp⟩ := hp0
    exact ⟨rfl, FnOk.pre (A' := [.agg (Dat.enc fun _ => (Dat.dec t : Table))]) (wchk_vc (Dat.dec t) hp) (.mk (Dat.hle _ g0) (trivial))⟩
  · cases h
structure AtX (t : Table) (x : Int) where
  k : Nat
  hk : k ≤ t.windows.length
  hr : atV t x = atW t.frame x (t.windows.drop k)
def wat_R (r : Th (Int × Int)) : AV := .tup [.i .i64 fun _ => (r ()).1, .i .i64 fun _ => (r ()).2]
def wat_P (t : Table) (x : Int) : Prop := wchkV t = 0
def wat_D : Det := fun A => match A with
  | [.agg t, .i .i64 x] => some (fun _ => Dat.ok Table t ∧ wat_P (Dat.dec t) (x ()), wat_R fun _ => atV (Dat.dec t) (x ()))
  | _ => none
def dWat : FuncId → Option Dt := fun f => match f with
  | _ => none
theorem dWat_ok : DetOk Try.prog dWat := fun f d h => by
  unfold dWat at h
  split at h
  · cases h
set_option maxRecDepth 100000 in
set_option maxHeartbeats 4000000 in
theorem wat_vc (t : Table) (x : Int) (hp : wat_P t x) : FnOk Try.prog 35 [.agg (Dat.enc fun _ => t), .i .i64 fun _ => x] [] (outA (wat_R fun _ => atV t x) []) := by
  refine fn_ok envOk zl noCon_ok (draws_ok envOk zl dWat_ok mixed) (keep := [0, 1, 2, 4, 5, 7, 9, 10, 11, 12, 18, 27]) Try.func35 rfl ?_
  have hR := wchk_iff.1 (show wchkV t = 0 from hp)
  have hlen := hR.len
  have hs2 := hR.s2
  have fin : ∀ a b H kl, atV t x = (a, b) → outA (wat_R fun _ => atV t x) [] (.tup [.i .i64 fun _ => a, .i .i64 fun _ => b]) H kl := fun a b H kl h => by
    rw [h]
    cbv
    repeat' first | (refine Stp.mk ?_; cbv) | (refine Gen.mk fun r hr => ?_; (try simp only [Dat.ok, Dat.dec, Leaf.ok, Leaf.val, Z0, Z1, Z2, Z3, Z4, Z5, Z6, Z7, val_sl, val_nil] at hr); cbv) | exact trivial | rfl | refine Both.mk ?_ ?_ | (refine Imp.mk fun h => ?_; (try dsimp only at h); (try simp only [nc, Int.toNat_natCast, ne_eq, zz] at h); (try simp only [nc] at h)) | refine Ob.mk ?_ ?_ | refine Chk.mk (by kernel_rfl) ?_ | refine Eq'.mk ?_ | (refine AllN.mk fun i hi => ?_; cbv) | (refine AllC.mk fun c hc hcm => ?_; (try dsimp only at hc); cbv) | (refine AllS.mk fun r hr => ?_; (try simp only [Dat.ok, Dat.dec, Leaf.ok, Leaf.val, Z0, Z1, Z2, Z3, Z4, Z5, Z6, Z7, val_sl] at hr); cbv)
  generalize outA (wat_R fun _ => atV t x) [] = K at fin ⊢
  cbv
  refine LoopVC.frame [4, 5, 7, 11, 12, 18, 27] (AtX t x) (fun x => [(11, .i .i64 fun _ => x.k)]) (fun _ => []) [] (fun x => t.windows.length - x.k) ⟨0, Nat.zero_le _, by rw [List.drop_zero]; rfl⟩ rfl (fun _ => rfl) ?_ ?_ fun ⟨k, hk, hr⟩ => ?_
  iterate 2
    · cbv
      repeat' first | (refine Stp.mk ?_; cbv) | (refine Gen.mk fun r hr => ?_; (try simp only [Dat.ok, Dat.dec, Leaf.ok, Leaf.val, Z0, Z1, Z2, Z3, Z4, Z5, Z6, Z7, val_sl, val_nil] at hr); cbv) | exact trivial | rfl | refine Both.mk ?_ ?_ | (refine Imp.mk fun h => ?_; (try dsimp only at h); (try simp only [nc, Int.toNat_natCast, ne_eq, zz] at h); (try simp only [nc] at h)) | refine Ob.mk ?_ ?_ | refine Chk.mk (by kernel_rfl) ?_ | refine Eq'.mk ?_ | (refine AllN.mk fun i hi => ?_; cbv) | (refine AllC.mk fun c hc hcm => ?_; (try dsimp only at hc); cbv) | (refine AllS.mk fun r hr => ?_; (try simp only [Dat.ok, Dat.dec, Leaf.ok, Leaf.val, Z0, Z1, Z2, Z3, Z4, Z5, Z6, Z7, val_sl] at hr); cbv)
  · cbv
    repeat' first | (show Stp _; exfalso; first | omega | (exact h ‹_›) | (exact absurd ‹_› h) | (exact Bool.false_ne_true (h.symm.trans (show _ = true by assumption)))) | (refine Stp.mk ?_; cbv) | (refine Gen.mk fun r hr => ?_; (try simp only [Dat.ok, Dat.dec, Leaf.ok, Leaf.val, Z0, Z1, Z2, Z3, Z4, Z5, Z6, Z7, val_sl, val_nil] at hr); cbv) | exact trivial | rfl | refine Both.mk ?_ ?_ | (refine Imp.mk fun h => ?_; (try dsimp only at h); (try simp only [nc, Int.toNat_natCast, ne_eq, zz] at h); (try simp only [nc] at h)) | refine Ob.mk ?_ ?_ | refine Chk.mk (by kernel_rfl) ?_ | refine Eq'.mk ?_ | (refine AllN.mk fun i hi => ?_; cbv) | (refine AllC.mk fun c hc hcm => ?_; (try dsimp only at hc); cbv) | (refine AllS.mk fun r hr => ?_; (try simp only [Dat.ok, Dat.dec, Leaf.ok, Leaf.val, Z0, Z1, Z2, Z3, Z4, Z5, Z6, Z7, val_sl] at hr); cbv)
    all_goals ((try dsimp only at *); (try simp only [nc, Int.toNat_natCast, ne_eq, zz] at *); (try simp only [nc] at *))
    all_goals try rw [nc] at *
    all_goals try (have hw := okW_get hR (show k < t.windows.length by omega))
    all_goals first
      | omega
      | exact ⟨by omega, by omega⟩
      | (unfold InR; omega)
      | (have hk2 : k < t.windows.length := by omega
         refine ⟨⟨k + 1, by omega, by rw [hr, at_drop hk2, if_neg (by omega), if_neg (by omega)]⟩, ?_, ?_, rfl, by (try dsimp only); omega⟩
         · cbv
           repeat' first | (refine Stp.mk ?_; cbv) | (refine Gen.mk fun r hr => ?_; (try simp only [Dat.ok, Dat.dec, Leaf.ok, Leaf.val, Z0, Z1, Z2, Z3, Z4, Z5, Z6, Z7, val_sl, val_nil] at hr); cbv) | exact trivial | rfl | refine Both.mk ?_ ?_ | (refine Imp.mk fun h => ?_; (try dsimp only at h); (try simp only [nc, Int.toNat_natCast, ne_eq, zz] at h); (try simp only [nc] at h)) | refine Ob.mk ?_ ?_ | refine Chk.mk (by kernel_rfl) ?_ | refine Eq'.mk ?_ | (refine AllN.mk fun i hi => ?_; cbv) | (refine AllC.mk fun c hc hcm => ?_; (try dsimp only at hc); cbv) | (refine AllS.mk fun r hr => ?_; (try simp only [Dat.ok, Dat.dec, Leaf.ok, Leaf.val, Z0, Z1, Z2, Z3, Z4, Z5, Z6, Z7, val_sl] at hr); cbv)
         · cbv
           repeat' first | (refine Stp.mk ?_; cbv) | (refine Gen.mk fun r hr => ?_; (try simp only [Dat.ok, Dat.dec, Leaf.ok, Leaf.val, Z0, Z1, Z2, Z3, Z4, Z5, Z6, Z7, val_sl, val_nil] at hr); cbv) | exact trivial | rfl | refine Both.mk ?_ ?_ | (refine Imp.mk fun h => ?_; (try dsimp only at h); (try simp only [nc, Int.toNat_natCast, ne_eq, zz] at h); (try simp only [nc] at h)) | refine Ob.mk ?_ ?_ | refine Chk.mk (by kernel_rfl) ?_ | refine Eq'.mk ?_ | (refine AllN.mk fun i hi => ?_; cbv) | (refine AllC.mk fun c hc hcm => ?_; (try dsimp only at hc); cbv) | (refine AllS.mk fun r hr => ?_; (try simp only [Dat.ok, Dat.dec, Leaf.ok, Leaf.val, Z0, Z1, Z2, Z3, Z4, Z5, Z6, Z7, val_sl] at hr); cbv))
      | (have hk2 : k < t.windows.length := by omega
         refine fin _ _ _ _ ?_
         first
           | (rw [hr, at_drop hk2, if_pos (by omega)]; done)
           | (rw [hr, at_drop hk2, if_neg (by omega), if_pos (by omega)]; done))
      | (refine fin _ _ _ _ ?_
         rw [hr, List.drop_eq_nil_of_le (by omega), atW])
      | fail
theorem wat_ok : PcOk Try.prog 35 (detPC wat_D) := det_okA fun A p r h hp0 => by
  unfold wat_D at h
  split at h
  · rename_i t x
    cases h
    obtain ⟨g0, hp⟩ := hp0
    exact ⟨rfl, FnOk.pre (A' := [.agg (Dat.enc fun _ => (Dat.dec t : Table)), .i .i64 fun _ => x ()]) (wat_vc (Dat.dec t) (x ()) hp) (.mk (Dat.hle _ g0) (.mk (.mk (.mk rfl) (.mk rfl)) (trivial)))⟩
  · cases h
def ownerV (t : Table) (x : Int) : Int × Int := if wchkV t = 0 then (if x < 0 ∨ 1099511627776 < x then (0, 1) else ((atV t (x.tmod t.frame)).1, 0)) else (0, wchkV t)
def wowner_R (r : Th (Int × Int)) : AV := .tup [.i .i64 fun _ => (r ()).1, .i .i64 fun _ => (r ()).2]
def wowner_P (t : Table) (x : Int) : Prop := t.windows.length ≤ 9223372036854775807
def wowner_D : Det := fun A => match A with
  | [.agg t, .i .i64 x] => some (fun _ => Dat.ok Table t ∧ wowner_P (Dat.dec t) (x ()), wowner_R fun _ => ownerV (Dat.dec t) (x ()))
  | _ => none
noncomputable def cWo : FuncId → Con := fun f => match f with
  | 34 => pureCon (detPC wchk_D)
  | 35 => pureCon (detPC wat_D)
  | _ => fun _ _ _ => Bad 1001
theorem cWo_ok : ConOk Try.prog cWo := fun f A H K h => by
  unfold cWo at h
  split at h
  · exact ⟨⟨Try.f34, Try.func34, by kernel_rfl, by kernel_rfl⟩, pureCon_ok wchk_ok h⟩
  · exact ⟨⟨Try.f35, Try.func35, by kernel_rfl, by kernel_rfl⟩, pureCon_ok wat_ok h⟩
  · cases h
def dWo : FuncId → Option Dt := fun f => match f with
  | 35 => some (.c wat_D)
  | _ => none
theorem dWo_ok : DetOk Try.prog dWo := fun f d h => by
  unfold dWo at h
  split at h
  · cases h; exact ⟨⟨Try.f35, Try.func35, by kernel_rfl, by kernel_rfl⟩, wat_ok⟩
  · cases h
set_option maxRecDepth 100000 in
set_option maxHeartbeats 4000000 in
theorem wowner_vc (t : Table) (x : Int) (hp : wowner_P t x) : FnOk Try.prog 11 [.agg (Dat.enc fun _ => t), .i .i64 fun _ => x] [] (outA (wowner_R fun _ => ownerV t x) []) := by
  refine fn_ok envOk zl cWo_ok (draws_ok envOk zl dWo_ok mixed) (keep := [0, 1, 2, 4, 5, 6, 7, 12, 19]) Try.func11 rfl ?_
  have hp' : t.windows.length ≤ 9223372036854775807 := hp
  have fin : ∀ a b H kl, ownerV t x = (a, b) → outA (wowner_R fun _ => ownerV t x) [] (.tup [.i .i64 fun _ => a, .i .i64 fun _ => b]) H kl := fun a b H kl h => by
    rw [h]
    cbv
    repeat' first | (refine Stp.mk ?_; cbv) | (refine Gen.mk fun r hr => ?_; (try simp only [Dat.ok, Dat.dec, Leaf.ok, Leaf.val, Z0, Z1, Z2, Z3, Z4, Z5, Z6, Z7, val_sl, val_nil] at hr); cbv) | exact trivial | rfl | refine Both.mk ?_ ?_ | (refine Imp.mk fun h => ?_; (try dsimp only at h); (try simp only [nc, Int.toNat_natCast, ne_eq, zz] at h); (try simp only [nc] at h)) | refine Ob.mk ?_ ?_ | refine Chk.mk (by kernel_rfl) ?_ | refine Eq'.mk ?_ | (refine AllN.mk fun i hi => ?_; cbv) | (refine AllC.mk fun c hc hcm => ?_; (try dsimp only at hc); cbv) | (refine AllS.mk fun r hr => ?_; (try simp only [Dat.ok, Dat.dec, Leaf.ok, Leaf.val, Z0, Z1, Z2, Z3, Z4, Z5, Z6, Z7, val_sl] at hr); cbv)
  generalize outA (wowner_R fun _ => ownerV t x) [] = K at fin ⊢
  cbv
  repeat' first | (show Stp _; exfalso; first | omega | (exact h ‹_›) | (exact absurd ‹_› h) | (exact Bool.false_ne_true (h.symm.trans (show _ = true by assumption)))) | (refine Stp.mk ?_; cbv) | (refine Gen.mk fun r hr => ?_; (try simp only [Dat.ok, Dat.dec, Leaf.ok, Leaf.val, Z0, Z1, Z2, Z3, Z4, Z5, Z6, Z7, val_sl, val_nil] at hr); cbv) | exact trivial | rfl | refine Both.mk ?_ ?_ | (refine Imp.mk fun h => ?_; (try dsimp only at h); (try simp only [nc, Int.toNat_natCast, ne_eq, zz] at h); (try simp only [nc] at h)) | refine Ob.mk ?_ ?_ | refine Chk.mk (by kernel_rfl) ?_ | refine Eq'.mk ?_ | (refine AllN.mk fun i hi => ?_; cbv) | (refine AllC.mk fun c hc hcm => ?_; (try dsimp only at hc); cbv) | (refine AllS.mk fun r hr => ?_; (try simp only [Dat.ok, Dat.dec, Leaf.ok, Leaf.val, Z0, Z1, Z2, Z3, Z4, Z5, Z6, Z7, val_sl] at hr); cbv)
  all_goals ((try dsimp only at *); (try simp only [nc, Int.toNat_natCast, ne_eq, zz] at *); (try simp only [nc] at *))
  all_goals try simp only [Dat.dec, Leaf.val, Z0, Z1, Z2, Z3, Z4, Z5, Z6, Z7, val_sl] at *
  all_goals try (have hR := wchk_iff.1 (by assumption : wchkV t = 0); have h1 := hR.s1)
  all_goals first
    | omega
    | exact ⟨⟨trivial, rfl, fun i _ => Dat.hok _⟩, hp'⟩
    | exact ⟨⟨trivial, rfl, fun i _ => Dat.hok _⟩, (by assumption : wchkV t = 0)⟩
    | (refine fin _ _ _ _ ?_
       first
         | (rw [ownerV, if_neg (by assumption)]; done)
         | (rw [ownerV, if_pos (by assumption), if_pos (by omega)]; done)
         | (rw [ownerV, if_pos (by assumption), if_neg (by omega)]; done))
    | fail
theorem wowner_ok : PcOk Try.prog 11 (detPC wowner_D) := det_okA fun A p r h hp0 => by
  unfold wowner_D at h
  split at h
  · rename_i t x
    cases h
    obtain ⟨g0, hp⟩ := hp0
    exact ⟨rfl, FnOk.pre (A' := [.agg (Dat.enc fun _ => (Dat.dec t : Table)), .i .i64 fun _ => x ()]) (wowner_vc (Dat.dec t) (x ()) hp) (.mk (Dat.hle _ g0) (.mk (.mk (.mk rfl) (.mk rfl)) (trivial)))⟩
  · cases h

end Go.Proofs.Ytbnpacdkllmblaa
