/- Each want has its time, in each of its rounds; for all inputs. -/
import Derived.Test.YtadjemhbfaonbaaWantsP
set_option linter.all false
namespace Go.Proofs.Ytadjemhbfaonbaa
open Go Go.Abs

structure eqWin_X (l m : List Window) where
  k : Nat
  hk : k ≤ l.length
  hv : ∀ j, j < k → l.getD j Dat.d0 = m.getD j Dat.d0
def eqWin_R (r : Th (Bool)) : AV := .b fun _ => (r ())
def eqWin_S (l : (List Window)) (m : (List Window)) : Bool := decide (l = m)
def eqWin_P (l : (List Window)) (m : (List Window)) : Prop := l.length ≤ 9223372036854775807
def eqWin_D : Det := fun A => match A with
  | [l, m] => some (fun _ => Leaf.ok (List Window) l ∧ Leaf.ok (List Window) m ∧ eqWin_P (Leaf.val l) (Leaf.val m), eqWin_R fun _ => eqWin_S (Leaf.val l) (Leaf.val m))
  | _ => none
set_option maxRecDepth 100000 in
set_option maxHeartbeats 4000000 in
theorem eqWin_vc (l : (List Window)) (m : (List Window)) (hp : eqWin_P l m) : FnOk Try.prog 26 [Leaf.av fun _ => l, Leaf.av fun _ => m] [] (outA (eqWin_R fun _ => eqWin_S l m) []) := by
  refine fn_ok envOk zl noCon_ok (draws_ok envOk zl noDet_ok mixed) (keep := [0, 1, 4, 5, 10, 12, 13, 14, 24]) Try.func26 rfl ?_
  have hp' : l.length ≤ 9223372036854775807 := hp
  have fin : ∀ (b : Bool) H kl, b = decide (l = m) → outA (eqWin_R fun _ => eqWin_S l m) [] (.bc b) H kl := by
    rintro b H kl rfl
    cbv
    repeat' first | (refine Stp.mk ?_; cbv) | (refine Gen.mk fun r hr => ?_; (try simp only [Dat.ok, Dat.dec, Leaf.ok, Leaf.val, Span.eta, Set.eta, Window.eta, Table.eta, Want.eta, val_sl, val_nil] at hr); cbv) | exact trivial | rfl | refine Both.mk ?_ ?_ | (refine Imp.mk fun h => ?_; (try dsimp only at h); (try simp only [nc, Int.toNat_natCast, Bool.not_eq_true', Bool.not_eq_false', decide_eq_true_eq, decide_eq_false_iff_not, beq_iff_eq, beq_eq_false_iff_ne, ba_inj, bne_iff_ne, ne_eq, Bool.and_eq_true, Bool.or_eq_true, Bool.and_eq_false_iff, Bool.or_eq_false_iff, Int.not_le, Int.not_lt, Nat.not_le, Nat.not_lt] at h); (try simp only [nc] at h)) | refine Ob.mk ?_ ?_ | refine Chk.mk (by kernel_rfl) ?_ | refine Eq'.mk ?_ | (refine AllN.mk fun i hi => ?_; cbv) | (refine AllS.mk fun r hr => ?_; (try simp only [Dat.ok, Dat.dec, Leaf.ok, Leaf.val, Span.eta, Set.eta, Window.eta, Table.eta, Want.eta, val_sl] at hr); cbv)
  generalize outA (eqWin_R fun _ => eqWin_S l m) [] = K at fin
  cbv
  refine Both.mk (Imp.mk fun h1 => ?_) (Imp.mk fun h1 => ?_)
  all_goals (refine Stp.mk ?_; cbv; (try dsimp only at h1); (try simp only [nc, Int.toNat_natCast, Bool.not_eq_true', Bool.not_eq_false', decide_eq_true_eq, decide_eq_false_iff_not, beq_iff_eq, beq_eq_false_iff_ne, ba_inj, bne_iff_ne, ne_eq, Bool.and_eq_true, Bool.or_eq_true, Bool.and_eq_false_iff, Bool.or_eq_false_iff, Int.not_le, Int.not_lt, Nat.not_le, Nat.not_lt] at h1); (try simp only [nc] at h1))
  · refine fin _ _ _ ?_
    exact (decide_eq_false (fun h => by subst h; omega)).symm
  · have hlen : l.length = m.length := by omega
    refine LoopVC.frame [4, 5, 13, 14, 24] (eqWin_X l m) (fun x => [(13, .i .i64 fun _ => x.k)]) (fun _ => []) [] (fun x => l.length - x.k)
      ⟨0, Nat.zero_le _, fun j hj => absurd hj (Nat.not_lt_zero _)⟩ rfl (fun _ => rfl) ?_ ?_ fun ⟨k, hk, hv⟩ => ?_
    · cbv
      repeat' first | (refine Stp.mk ?_; cbv) | (refine Gen.mk fun r hr => ?_; (try simp only [Dat.ok, Dat.dec, Leaf.ok, Leaf.val, Span.eta, Set.eta, Window.eta, Table.eta, Want.eta, val_sl, val_nil] at hr); cbv) | exact trivial | rfl | refine Both.mk ?_ ?_ | (refine Imp.mk fun h => ?_; (try dsimp only at h); (try simp only [nc, Int.toNat_natCast, Bool.not_eq_true', Bool.not_eq_false', decide_eq_true_eq, decide_eq_false_iff_not, beq_iff_eq, beq_eq_false_iff_ne, ba_inj, bne_iff_ne, ne_eq, Bool.and_eq_true, Bool.or_eq_true, Bool.and_eq_false_iff, Bool.or_eq_false_iff, Int.not_le, Int.not_lt, Nat.not_le, Nat.not_lt] at h); (try simp only [nc] at h)) | refine Ob.mk ?_ ?_ | refine Chk.mk (by kernel_rfl) ?_ | refine Eq'.mk ?_ | (refine AllN.mk fun i hi => ?_; cbv) | (refine AllS.mk fun r hr => ?_; (try simp only [Dat.ok, Dat.dec, Leaf.ok, Leaf.val, Span.eta, Set.eta, Window.eta, Table.eta, Want.eta, val_sl] at hr); cbv)
    · cbv
    · cbv
      repeat' first | (refine Stp.mk ?_; cbv) | (refine Gen.mk fun r hr => ?_; (try simp only [Dat.ok, Dat.dec, Leaf.ok, Leaf.val, Span.eta, Set.eta, Window.eta, Table.eta, Want.eta, val_sl, val_nil] at hr); cbv) | exact trivial | rfl | refine Both.mk ?_ ?_ | (refine Imp.mk fun h => ?_; (try dsimp only at h); (try simp only [nc, Int.toNat_natCast, Bool.not_eq_true', Bool.not_eq_false', decide_eq_true_eq, decide_eq_false_iff_not, beq_iff_eq, beq_eq_false_iff_ne, ba_inj, bne_iff_ne, ne_eq, Bool.and_eq_true, Bool.or_eq_true, Bool.and_eq_false_iff, Bool.or_eq_false_iff, Int.not_le, Int.not_lt, Nat.not_le, Nat.not_lt] at h); (try simp only [nc] at h)) | refine Ob.mk ?_ ?_ | refine Chk.mk (by kernel_rfl) ?_ | refine Eq'.mk ?_ | (refine AllN.mk fun i hi => ?_; cbv) | (refine AllS.mk fun r hr => ?_; (try simp only [Dat.ok, Dat.dec, Leaf.ok, Leaf.val, Span.eta, Set.eta, Window.eta, Table.eta, Want.eta, val_sl] at hr); cbv)
      all_goals ((try dsimp only at *); (try simp only [nc, Int.toNat_natCast, Bool.not_eq_true', Bool.not_eq_false', decide_eq_true_eq, decide_eq_false_iff_not, beq_iff_eq, beq_eq_false_iff_ne, ba_inj, bne_iff_ne, ne_eq, Bool.and_eq_true, Bool.or_eq_true, Bool.and_eq_false_iff, Bool.or_eq_false_iff, Int.not_le, Int.not_lt, Nat.not_le, Nat.not_lt] at *); (try simp only [nc] at *))
      all_goals first
        | omega
        | (unfold InR; omega)
        | (refine fin _ _ _ (decide_eq_true ?_).symm
           apply List.ext_getElem hlen
           intro i h1 h2
           have := hv i (by omega)
           simpa [h1, h2] using this)
        | (refine fin _ _ _ (decide_eq_false fun h => ?_).symm
           subst h
           simp_all; done)
        | skip
      all_goals (
        refine ⟨⟨k + 1, by omega, fun j hj => ?_⟩, ?_, trivial, rfl, by (try dsimp only); omega⟩
        · rcases Nat.lt_succ_iff_lt_or_eq.1 hj with hj | rfl
          · exact hv j hj
          · first | assumption | (generalize l.getD j Dat.d0 = a at *; generalize m.getD j Dat.d0 = b at *; cases a; cases b; simp_all; done)
        · cbv
          repeat' first | (refine Stp.mk ?_; cbv) | (refine Gen.mk fun r hr => ?_; (try simp only [Dat.ok, Dat.dec, Leaf.ok, Leaf.val, Span.eta, Set.eta, Window.eta, Table.eta, Want.eta, val_sl, val_nil] at hr); cbv) | exact trivial | rfl | refine Both.mk ?_ ?_ | (refine Imp.mk fun h => ?_; (try dsimp only at h); (try simp only [nc, Int.toNat_natCast, Bool.not_eq_true', Bool.not_eq_false', decide_eq_true_eq, decide_eq_false_iff_not, beq_iff_eq, beq_eq_false_iff_ne, ba_inj, bne_iff_ne, ne_eq, Bool.and_eq_true, Bool.or_eq_true, Bool.and_eq_false_iff, Bool.or_eq_false_iff, Int.not_le, Int.not_lt, Nat.not_le, Nat.not_lt] at h); (try simp only [nc] at h)) | refine Ob.mk ?_ ?_ | refine Chk.mk (by kernel_rfl) ?_ | refine Eq'.mk ?_ | (refine AllN.mk fun i hi => ?_; cbv) | (refine AllS.mk fun r hr => ?_; (try simp only [Dat.ok, Dat.dec, Leaf.ok, Leaf.val, Span.eta, Set.eta, Window.eta, Table.eta, Want.eta, val_sl] at hr); cbv))
theorem eqWin_ok : PcOk Try.prog 26 (detPC eqWin_D) := det_okA fun A p r h hp0 => by
  unfold eqWin_D at h
  split at h
  · rename_i l m
    cases h
    obtain ⟨g0, g1, hp⟩ := hp0
    exact ⟨rfl, FnOk.pre (A' := [Leaf.av fun _ => (Leaf.val l : (List Window)), Leaf.av fun _ => (Leaf.val m : (List Window))]) (eqWin_vc (Leaf.val l) (Leaf.val m) hp) (.mk (Leaf.hle _ g0) (.mk (Leaf.hle _ g1) (trivial)))⟩
  · cases h
noncomputable def cSm : FuncId → Con := fun f => match f with
  | 26 => pureCon (detPC eqWin_D)
  | _ => fun _ _ _ => Bad 1001
theorem cSm_ok : ConOk Try.prog cSm := fun f A H K h => by
  unfold cSm at h
  split at h
  · exact ⟨⟨Try.f26, Try.func26, by kernel_rfl, by kernel_rfl⟩, pureCon_ok eqWin_ok h⟩
  · cases h
def sameTV (a b : Table) : Bool := decide (a.frame = b.frame) && decide (a.windows = b.windows)
def sameT_R (r : Th (Bool)) : AV := .b fun _ => (r ())
def sameT_P (a : Table) (b : Table) : Prop := a.windows.length ≤ 9223372036854775807
def sameT_D : Det := fun A => match A with
  | [.agg a, .agg b] => some (fun _ => Dat.ok Table a ∧ Dat.ok Table b ∧ sameT_P (Dat.dec a) (Dat.dec b), sameT_R fun _ => sameTV (Dat.dec a) (Dat.dec b))
  | _ => none
set_option maxRecDepth 100000 in
set_option maxHeartbeats 4000000 in
theorem sameT_vc (a : Table) (b : Table) (hp : sameT_P a b) : FnOk Try.prog 14 [.agg (Dat.enc fun _ => a), .agg (Dat.enc fun _ => b)] [] (outA (sameT_R fun _ => sameTV a b) []) := by
  refine fn_ok envOk zl cSm_ok noDraws_ok (keep := [0, 1, 2, 3, 4]) Try.func14 rfl ?_
  have hp' : a.windows.length ≤ 9223372036854775807 := hp
  have fin : ∀ (b' : PUnit → Bool) H kl, sameTV a b = b' () → outA (sameT_R fun _ => sameTV a b) [] (.b b') H kl := fun b' H kl h => by
    rw [h]
    cbv
    repeat' first | (refine Stp.mk ?_; cbv) | (refine Gen.mk fun r hr => ?_; (try simp only [Dat.ok, Dat.dec, Leaf.ok, Leaf.val, Span.eta, Set.eta, Window.eta, Table.eta, Want.eta, val_sl, val_nil] at hr); cbv) | exact trivial | rfl | refine Both.mk ?_ ?_ | (refine Imp.mk fun h => ?_; (try dsimp only at h); (try simp only [nc, Int.toNat_natCast, Bool.not_eq_true', Bool.not_eq_false', decide_eq_true_eq, decide_eq_false_iff_not, beq_iff_eq, beq_eq_false_iff_ne, ba_inj, bne_iff_ne, ne_eq, Bool.and_eq_true, Bool.or_eq_true, Bool.and_eq_false_iff, Bool.or_eq_false_iff, Int.not_le, Int.not_lt, Nat.not_le, Nat.not_lt] at h); (try simp only [nc] at h)) | refine Ob.mk ?_ ?_ | refine Chk.mk (by kernel_rfl) ?_ | refine Eq'.mk ?_ | (refine AllN.mk fun i hi => ?_; cbv) | (refine AllS.mk fun r hr => ?_; (try simp only [Dat.ok, Dat.dec, Leaf.ok, Leaf.val, Span.eta, Set.eta, Window.eta, Table.eta, Want.eta, val_sl] at hr); cbv)
  have finc : ∀ (b' : Bool) H kl, sameTV a b = b' → outA (sameT_R fun _ => sameTV a b) [] (.bc b') H kl := fun b' H kl h => by
    rw [h]
    cbv
    repeat' first | (refine Stp.mk ?_; cbv) | (refine Gen.mk fun r hr => ?_; (try simp only [Dat.ok, Dat.dec, Leaf.ok, Leaf.val, Span.eta, Set.eta, Window.eta, Table.eta, Want.eta, val_sl, val_nil] at hr); cbv) | exact trivial | rfl | refine Both.mk ?_ ?_ | (refine Imp.mk fun h => ?_; (try dsimp only at h); (try simp only [nc, Int.toNat_natCast, Bool.not_eq_true', Bool.not_eq_false', decide_eq_true_eq, decide_eq_false_iff_not, beq_iff_eq, beq_eq_false_iff_ne, ba_inj, bne_iff_ne, ne_eq, Bool.and_eq_true, Bool.or_eq_true, Bool.and_eq_false_iff, Bool.or_eq_false_iff, Int.not_le, Int.not_lt, Nat.not_le, Nat.not_lt] at h); (try simp only [nc] at h)) | refine Ob.mk ?_ ?_ | refine Chk.mk (by kernel_rfl) ?_ | refine Eq'.mk ?_ | (refine AllN.mk fun i hi => ?_; cbv) | (refine AllS.mk fun r hr => ?_; (try simp only [Dat.ok, Dat.dec, Leaf.ok, Leaf.val, Span.eta, Set.eta, Window.eta, Table.eta, Want.eta, val_sl] at hr); cbv)
  generalize outA (sameT_R fun _ => sameTV a b) [] = K at fin finc ⊢
  cbv
  repeat' first | (show Stp _; exfalso; first | omega | (exact h ‹_›) | (exact absurd ‹_› h) | (exact Bool.false_ne_true (h.symm.trans (show _ = true by assumption)))) | (refine Stp.mk ?_; cbv) | (refine Gen.mk fun r hr => ?_; (try simp only [Dat.ok, Dat.dec, Leaf.ok, Leaf.val, Span.eta, Set.eta, Window.eta, Table.eta, Want.eta, val_sl, val_nil] at hr); cbv) | exact trivial | rfl | refine Both.mk ?_ ?_ | (refine Imp.mk fun h => ?_; (try dsimp only at h); (try simp only [nc, Int.toNat_natCast, Bool.not_eq_true', Bool.not_eq_false', decide_eq_true_eq, decide_eq_false_iff_not, beq_iff_eq, beq_eq_false_iff_ne, ba_inj, bne_iff_ne, ne_eq, Bool.and_eq_true, Bool.or_eq_true, Bool.and_eq_false_iff, Bool.or_eq_false_iff, Int.not_le, Int.not_lt, Nat.not_le, Nat.not_lt] at h); (try simp only [nc] at h)) | refine Ob.mk ?_ ?_ | refine Chk.mk (by kernel_rfl) ?_ | refine Eq'.mk ?_ | (refine AllN.mk fun i hi => ?_; cbv) | (refine AllS.mk fun r hr => ?_; (try simp only [Dat.ok, Dat.dec, Leaf.ok, Leaf.val, Span.eta, Set.eta, Window.eta, Table.eta, Want.eta, val_sl] at hr); cbv)
  all_goals ((try dsimp only at *); (try simp only [nc, Int.toNat_natCast, Bool.not_eq_true', Bool.not_eq_false', decide_eq_true_eq, decide_eq_false_iff_not, beq_iff_eq, beq_eq_false_iff_ne, ba_inj, bne_iff_ne, ne_eq, Bool.and_eq_true, Bool.or_eq_true, Bool.and_eq_false_iff, Bool.or_eq_false_iff, Int.not_le, Int.not_lt, Nat.not_le, Nat.not_lt] at *); (try simp only [nc] at *))
  all_goals try simp only [Dat.dec, Leaf.val, Span.eta, Set.eta, Window.eta, Table.eta, Want.eta, val_sl] at *
  all_goals first
    | exact ⟨⟨rfl, fun i _ => Dat.hok _⟩, ⟨rfl, fun i _ => Dat.hok _⟩, hp'⟩
    | (refine fin _ _ _ ?_; unfold sameTV; rw [decide_eq_true (by assumption), Bool.true_and]; rfl)
    | (refine finc _ _ _ ?_; unfold sameTV; rw [decide_eq_false (by assumption), Bool.false_and])
    | fail
theorem sameT_ok : PcOk Try.prog 14 (detPC sameT_D) := det_okA fun A p r h hp0 => by
  unfold sameT_D at h
  split at h
  · rename_i a b
    cases h
    obtain ⟨g0, g1, hp⟩ := hp0
    exact ⟨rfl, FnOk.pre (A' := [.agg (Dat.enc fun _ => (Dat.dec a : Table)), .agg (Dat.enc fun _ => (Dat.dec b : Table))]) (sameT_vc (Dat.dec a) (Dat.dec b) hp) (.mk (Dat.hle _ g0) (.mk (Dat.hle _ g1) (trivial)))⟩
  · cases h
noncomputable def cTbW : FuncId → Con := fun f => match f with
  | 9 => pureCon make_C
  | 8 => pureCon (detPC tablives_D)
  | 10 => pureCon (detPC wowner_D)
  | 14 => pureCon (detPC sameT_D)
  | 11 => pureCon clWant_C
  | 12 => rvWant_K
  | 13 => dlWant_K
  | _ => fun _ _ _ => Bad 1001
theorem cTbW_ok : ConOk Try.prog cTbW := fun f A H K h => by
  unfold cTbW at h
  split at h
  · exact ⟨⟨Try.f9, Try.func9, by kernel_rfl, by kernel_rfl⟩, pureCon_ok make_ok h⟩
  · exact ⟨⟨Try.f8, Try.func8, by kernel_rfl, by kernel_rfl⟩, pureCon_ok tablives_ok h⟩
  · exact ⟨⟨Try.f10, Try.func10, by kernel_rfl, by kernel_rfl⟩, pureCon_ok wowner_ok h⟩
  · exact ⟨⟨Try.f14, Try.func14, by kernel_rfl, by kernel_rfl⟩, pureCon_ok sameT_ok h⟩
  · exact ⟨⟨Try.f11, Try.func11, by kernel_rfl, by kernel_rfl⟩, pureCon_ok clWant_ok h⟩
  · exact ⟨⟨Try.f12, Try.func12, by kernel_rfl, by kernel_rfl⟩, rvWant_ok h⟩
  · exact ⟨⟨Try.f13, Try.func13, by kernel_rfl, by kernel_rfl⟩, dlWant_ok h⟩
  · cases h
def dTbW : FuncId → Option Dt := fun f => match f with
  | 11 => some (.n clWantN_N)
  | 13 => some (.o (ownDet Want 36 dlWant_S))
  | 10 => some (.c wowner_D)
  | _ => none
theorem dTbW_ok : DetOk Try.prog dTbW := fun f d h => by
  unfold dTbW at h
  split at h
  · cases h; exact ⟨⟨Try.f11, Try.func11, by kernel_rfl, by kernel_rfl⟩, clWantN_okN⟩
  · cases h; exact ⟨⟨Try.f13, Try.func13, by kernel_rfl, by kernel_rfl⟩, dlWant_okO⟩
  · cases h; exact ⟨⟨Try.f10, Try.func10, by kernel_rfl, by kernel_rfl⟩, wowner_ok⟩
  · cases h
set_option maxRecDepth 100000 in
set_option maxHeartbeats 4000000 in
theorem tbwants_vc (size : Int) (l : (List Want)) (k : Int) (round : Int) (x : Int) (fit_size : Siz.fit size) (fit_l : Siz.fit l) (fit_k : Siz.fit k) (fit_round : Siz.fit round) (fit_x : Siz.fit x) (hB : Siz.bulk size + Siz.bulk l + Siz.bulk k + Siz.bulk round + Siz.bulk x ≤ 1048576) : FnOk Try.prog 4 [.i .i64 fun _ => size, Leaf.av fun _ => l, .i .i64 fun _ => k, .i .i64 fun _ => round, .i .i64 fun _ => x] [] (outA (.bc true) []) := by
  refine fn_ok envOk zl cTbW_ok (draws_ok envOk zl dTbW_ok mixed) (keep := [0, 1, 2, 3, 4, 10, 11, 12, 13, 14, 15, 16, 17, 18, 19, 20, 21, 22, 23, 45, 66]) Try.func4 rfl ?_
  have fin := @fin_b
  have finc := @fin_t
  have hl : l.length ≤ 1048576 := by
    have h1 := bulk_len (α := Want) Want.one_le l
    simp only [Siz.bulk] at hB h1
    omega
  generalize outA (.bc true) [] = K at fin finc
  cbv
  repeat' first | (show Stp _; exfalso; first | omega | (exact h ‹_›) | (exact absurd ‹_› h) | (exact Bool.false_ne_true (h.symm.trans (show _ = true by assumption)))) | (refine Stp.mk ?_; cbv) | (refine Gen.mk fun r hr => ?_; (try simp only [Dat.ok, Dat.dec, Leaf.ok, Leaf.val, Span.eta, Set.eta, Window.eta, Table.eta, Want.eta, val_sl, val_nil] at hr); cbv) | exact trivial | rfl | refine Both.mk ?_ ?_ | (refine Imp.mk fun h => ?_; (try dsimp only at h); (try simp only [nc, Int.toNat_natCast, Bool.not_eq_true', Bool.not_eq_false', decide_eq_true_eq, decide_eq_false_iff_not, beq_iff_eq, beq_eq_false_iff_ne, ba_inj, bne_iff_ne, ne_eq, Bool.and_eq_true, Bool.or_eq_true, Bool.and_eq_false_iff, Bool.or_eq_false_iff, Int.not_le, Int.not_lt, Nat.not_le, Nat.not_lt] at h); (try simp only [nc] at h)) | refine Ob.mk ?_ ?_ | refine Chk.mk (by kernel_rfl) ?_ | refine Eq'.mk ?_ | (refine AllN.mk fun i hi => ?_; cbv) | (refine AllS.mk fun r hr => ?_; (try simp only [Dat.ok, Dat.dec, Leaf.ok, Leaf.val, Span.eta, Set.eta, Window.eta, Table.eta, Want.eta, val_sl] at hr); cbv)
  all_goals ((try dsimp only at *); (try simp only [nc, Int.toNat_natCast, Bool.not_eq_true', Bool.not_eq_false', decide_eq_true_eq, decide_eq_false_iff_not, beq_iff_eq, beq_eq_false_iff_ne, ba_inj, bne_iff_ne, ne_eq, Bool.and_eq_true, Bool.or_eq_true, Bool.and_eq_false_iff, Bool.or_eq_false_iff, Int.not_le, Int.not_lt, Nat.not_le, Nat.not_lt] at *); (try simp only [nc] at *))
  all_goals try simp only [Dat.dec, Leaf.val, Span.eta, Set.eta, Window.eta, Table.eta, Want.eta, val_sl] at *
  all_goals first
    | exact finc
    | exact Nat.le_refl _
    | exact ⟨⟨rfl, fun i _ => Dat.hok _⟩, show _ ≤ _ by omega⟩
    | exact ⟨by omega, by omega⟩
    | skip
  all_goals repeat (rename (_ = l) => hq3; have hq4 := hq3.symm; clear hq3; subst hq4)
  all_goals repeat (rename (_ = makeV _ _) => hq3; have hq4 := hq3.symm; clear hq3; subst hq4)
  all_goals have hr1 : l.reverse.length = l.length := List.length_reverse
  all_goals have erv : (slV (.sl 4 (fun _ => l.length) fun i => Dat.enc fun _ => (rvWant_F l).getD (i ()) Dat.d0) : List Want) = l.reverse := val_len (α := Want) (l := l.reverse) 4 hr1.symm
  all_goals have hk : (k + 1).toNat = k.toNat + 1 := (by omega)
  all_goals have hN : dlWant_N l k (k + 1) = (delU l k.toNat (k.toNat + 1)).length := (by rw [← hk]; rfl)
  all_goals have hF : dlWant_F l k (k + 1) = delU l k.toNat (k.toNat + 1) := (by rw [← hk]; rfl)
  all_goals have hdl : (delU l k.toNat (k.toNat + 1)).length ≤ 1048576 := (by rw [delU_len (by omega) (by omega)]; omega)
  all_goals obtain ⟨c1, c2, c3, c4, c5, W⟩ := wants_ok (by assumption : (makeV size l).2 = 0) (show k.toNat < l.length by omega) (show 0 ≤ round by assumption) (show round ≤ 1000000 by assumption) (show 0 ≤ x by assumption) (by assumption : x < (l.getD k.toNat Dat.d0).long)
  all_goals try simp only [erv, hN, hF, val_sl] at *
  all_goals first
    | exact Nat.le_refl _
    | (unfold InR; omega)
    | exact ⟨⟨rfl, fun i _ => Dat.hok _⟩, show _ ≤ _ by omega⟩
    | exact ⟨⟨trivial, rfl, fun i _ => Dat.hok _⟩, make_len _ _⟩
    | exact ⟨⟨trivial, rfl, fun i _ => Dat.hok _⟩, ⟨trivial, rfl, fun i _ => Dat.hok _⟩, make_len _ _⟩
    | exact ⟨rfl, trivial, fun i _ => Dat.hok _, show _ ≤ _ by omega⟩
    | exact ⟨rfl, trivial, fun i _ => Dat.hok _, by omega, by omega, by omega, by omega, by omega⟩
    | skip
  all_goals have w1 := W.own
  all_goals have w2 := W.rev
  all_goals have w3 := W.del
  all_goals have w4 := W.non
  all_goals have hsm : sameTV (makeV size l).1 (makeV size l).1 = true := (by unfold sameTV; simp)
  all_goals first
    | exact Nat.le_of_eq hr1.symm
    | exact fin (beq_iff_eq.2 (congrArg (·.1) w4))
    | (exfalso; simp only [w1, w2, w3, w4, hsm] at *; first | exact h rfl | exact h trivial | exact Bool.noConfusion h | simp_all; done)
    | fail
section
open Go.ChangeShapes Go.WideShapes Go.ChangeAt Go.RowKit Go.Joins Go.Deep
set_option linter.unusedVariables false
theorem tbwants_own : ownKnob Try.prog.godebug = none := by kernel_rfl
theorem tbwants_laidOut : laidOutB Try.prog = true := by kernel_rfl
theorem tbwants_readOk {ts : Array TypeId} (h : ts.toList.all (fun t => Try.prog.readableRec t && decide (t < Try.prog.types.size)) = true) : ∀ t ∈ ts.toList, Try.prog.readableRec t = true ∧ t < Try.prog.types.size := fun t ht => by
  have := List.all_eq_true.1 h t ht
  simpa using this
mutual
theorem tbwants_bD {H : Type} : ∀ d : DataW H, Rows.uptoBulk d = bulkD d
  | .lit l => by cases l <;> simp [Rows.uptoBulk, bulkD]
  | .nil => by simp [Rows.uptoBulk, bulkD]
  | .ptr d => by simp [Rows.uptoBulk, bulkD, tbwants_bD d]
  | .slice a b => by simp [Rows.uptoBulk, bulkD, tbwants_bL a, tbwants_bL b]
  | .agg a => by simp [Rows.uptoBulk, bulkD, tbwants_bL a]
  | .iface _ d => by simp [Rows.uptoBulk, bulkD, tbwants_bD d]
  | .map e => by simp [Rows.uptoBulk, bulkD, tbwants_bE e]
  | .held _ => by simp [Rows.uptoBulk, bulkD]
theorem tbwants_bL {H : Type} : ∀ d : List (DataW H), Rows.uptoBulkAll d = bulkL d
  | [] => by simp [Rows.uptoBulkAll, bulkL]
  | d :: r => by simp [Rows.uptoBulkAll, bulkL, tbwants_bD d, tbwants_bL r]
theorem tbwants_bE {H : Type} : ∀ d : List (Lit × DataW H), Rows.uptoBulkEntries d = bulkE d
  | [] => by simp [Rows.uptoBulkEntries, bulkE]
  | d :: r => by simp [Rows.uptoBulkEntries, bulkE, tbwants_bX d, tbwants_bE r]
theorem tbwants_bX {H : Type} : ∀ d : Lit × DataW H, Rows.uptoBulkEntry d = bulkX d
  | (l, d) => by cases l <;> simp [Rows.uptoBulkEntry, bulkX, tbwants_bD d]
end
set_option maxRecDepth 100000 in
theorem tbwants_lifted (os : Os) (started : os.Started) (H : Type) (enc : TypeId × Value → H) (F : Stop.Interp) :
    ReturnsInHanded {} Try.checked os 4 .any ((Rows.OpenSpec.upto Rows.tableWantsSpec).pre6 enc Try.prog Try.f4 Rows.tableWantsUptoRow.domain false) (((Rows.OpenSpec.upto Rows.tableWantsSpec).at F).post enc Try.prog Try.f4 false true false false) := by
  refine returnsInHanded_of_cond (C := Try.checked) (s := Rows.OpenSpec.upto Rows.tableWantsSpec) (k := Rows.uptoSmall) rfl tbwants_own started (by kernel_rfl) Try.func4
    (OpenSpec.witness (enc := enc) (C := Try.checked) (s := Rows.OpenSpec.upto Rows.tableWantsSpec) (k := Rows.uptoSmall) rfl false ⟨#[], #[.int .i64 0, .slice none 0 0, .int .i64 0, .int .i64 0, .int .i64 0], []⟩ 8 (by kernel_rfl) (by kernel_rfl) (by kernel_rfl)
      (x := ([.lit (.int .i64 0), .nil, .lit (.int .i64 0), .lit (.int .i64 0), .lit (.int .i64 0)], [], [])) (by kernel_rfl) rfl (by kernel_rfl)) ?_
  intro W base args ds gs before hval0 hW _ hk _
  show Calls Try.prog 4 args W fun e W' => ∃ v, e = .returned v ∧ Rows.tableWantsSpec.post enc Try.prog Try.f4 false true false false W args v W'
  have hval : ∀ (j : Nat) t v, Try.f4.params[j]? = some t → args[j]? = some v → Value.okWide Try.prog W .any base t v := hval0
  have hW' := hW
  have hlt := hW.lt
  obtain ⟨p, q, hA0, hV, rfl, hfz, hnd⟩ := hW
  have hA : DataW.TrodAll enc Try.prog W 0 (fun _ => true) true Try.f4.params.toList args.toList ds p := hA0
  have hA1 := hA
  rw [Try.params4] at hA hval
  obtain ⟨v0, vs0, d0, ds0, p0, q0, hargs, rfl, rfl, h0, r0⟩ := trodAll_cons hA
  obtain ⟨v1, vs1, d1, ds1, p1, q1, rfl, rfl, rfl, h1, r1⟩ := trodAll_cons r0
  obtain ⟨v2, vs2, d2, ds2, p2, q2, rfl, rfl, rfl, h2, r2⟩ := trodAll_cons r1
  obtain ⟨v3, vs3, d3, ds3, p3, q3, rfl, rfl, rfl, h3, r3⟩ := trodAll_cons r2
  obtain ⟨v4, vs4, d4, ds4, p4, q4, rfl, rfl, rfl, h4, r4⟩ := trodAll_cons r3
  obtain ⟨rfl, rfl, rfl⟩ := trodAll_nil r4
  obtain rfl : args = #[v0, v1, v2, v3, v4] := by cases args; simp_all
  obtain ⟨rfl, rfl⟩ := trodVars_none hV
  obtain ⟨z0, rfl⟩ := okWide_int Try.underlying3 (hval 0 3 v0 rfl rfl)
  obtain ⟨y0, u0, b0, e0⟩ := arg_leaf (α := Int) (opn_int Try.underlying3) rfl h0
  obtain ⟨z1, z'1, z''1, rfl⟩ := okWide_slice Try.underlying32 (hval 1 32 v1 rfl rfl)
  obtain ⟨y1, u1, b1, e1⟩ := arg_leaf (α := (List Want)) (opn_slice Try.underlying32 (by kernel_rfl) (by decide) opn_Want) rfl h1
  obtain ⟨z2, rfl⟩ := okWide_int Try.underlying3 (hval 2 3 v2 rfl rfl)
  obtain ⟨y2, u2, b2, e2⟩ := arg_leaf (α := Int) (opn_int Try.underlying3) rfl h2
  obtain ⟨z3, rfl⟩ := okWide_int Try.underlying3 (hval 3 3 v3 rfl rfl)
  obtain ⟨y3, u3, b3, e3⟩ := arg_leaf (α := Int) (opn_int Try.underlying3) rfl h3
  obtain ⟨z4, rfl⟩ := okWide_int Try.underlying3 (hval 4 3 v4 rfl rfl)
  obtain ⟨y4, u4, b4, e4⟩ := arg_leaf (α := Int) (opn_int Try.underlying3) rfl h4
  have hB : Siz.bulk y0 + Siz.bulk y1 + Siz.bulk y2 + Siz.bulk y3 + Siz.bulk y4 ≤ 1048576 := by
    have h := of_decide_eq_true hk
    rw [tbwants_bL] at h
    simp only [List.append_nil, bulkL] at h
    omega
  have hR := repL_cons (M := fun _ => False) (β := fun _ => none) (cp := fun _ => 0) (.c e0) (repL_cons (M := fun _ => False) (β := fun _ => none) (cp := fun _ => 0) (.c e1) (repL_cons (M := fun _ => False) (β := fun _ => none) (cp := fun _ => 0) (.c e2) (repL_cons (M := fun _ => False) (β := fun _ => none) (cp := fun _ => 0) (.c e3) (repL_cons (M := fun _ => False) (β := fun _ => none) (cp := fun _ => 0) (.c e4) (repL_nil)))))
  refine (law_callsA (tbwants_vc y0 y1 y2 y3 y4 u0 u1 u2 u3 u4 hB) hR).mono fun e W' ⟨he, bel⟩ => ?_
  subst he
  exact ⟨_, rfl, _, _, _, [], _, [], hW', trodAll_mk1 (shut_bool Try.underlying4 _), trodAll_below tbwants_laidOut bel (tbwants_readOk (by kernel_rfl)) (fun x hx => hlt x (List.mem_append_left _ hx)) hA1, rfl, bel.frame _, fun h => by cases h⟩
theorem TableWants_proved : Rows.TableWantsUptoSaid :=
  OpenClaim.holds_of_cond 4 Try.f4 rfl rfl rfl rfl rfl rfl rfl ⟨rfl, rfl, rfl, rfl, rfl⟩ rfl rfl rfl rfl rfl (by kernel_rfl) Try.func4 (by kernel_rfl)
    (of_decide_eq_true (by kernel_rfl)) (by unfold Func.isWrapper; first | (rw [if_pos (by decide +kernel)]; kernel_rfl) | (rw [if_neg (by decide +kernel)]; exact ⟨rfl, rfl⟩))
    (fun os started H enc _ F => tbwants_lifted os started H enc F)
end

end Go.Proofs.Ytadjemhbfaonbaa
