/- An instruction read from its words: walked. -/
import Derived.Test.YtebiaihhpflpgaaDoorPgr1
set_option linter.all false
namespace Go.Proofs.YtebiaihhpflpgaaDoor
open Go Go.Abs

def argV (w : List ByteArray) (i : Nat) : Int := numV (trimV (w.getD i Dat.d0) rV)
def posB (s : shape) (w : List ByteArray) : Nat := if s.a = true ∧ 1 < w.length then 2 else 1
def insV (s : shape) (k : Int) (w : List ByteArray) : Ins :=
  ⟨k, if s.a = true ∧ 1 < w.length then argV w 1 else 0, if ¬ s.b.n = 0 ∧ posB s w < w.length then argV w (posB s w) else 0⟩
def readV (s : shape) (k : Int) (w : List ByteArray) : Ins × Bool := (insV s k w, decide (wordsV s (insV s k w) = w))
theorem num_in (s : ByteArray) : -9223372036854775808 ≤ numV s ∧ numV s ≤ 9223372036854775807 := by
  unfold numV
  split
  · rename_i v h
    unfold Lib.parseIntB at h
    split at h
    · cases h
    · dsimp only at h
      split at h
      · cases h
      · cases h
      · split at h
        · cases h
        · split at h
          · cases h
          · cases h
            split <;> omega
  · unfold Lib.intSat
    split <;> omega
  · omega
theorem ins_in (s : shape) (k : Int) (w : List ByteArray) : insIn (insV s k w) := by
  refine ⟨?_, ?_⟩
  · show _ ≤ (if _ then argV _ _ else 0) ∧ (if _ then argV _ _ else 0) ≤ _
    split
    · exact num_in _
    · omega
  · show _ ≤ (if _ then argV _ _ else 0) ∧ (if _ then argV _ _ else 0) ≤ _
    split
    · exact num_in _
    · omega
theorem trim_size (s p : ByteArray) : (trimV s p).size ≤ s.size := by
  show (Lib.trimPrefix s.data.toList p.data.toList).toArray.size ≤ s.data.size
  unfold Lib.trimPrefix
  split
  · simp
  · simp
theorem words_len (s : shape) (i : Ins) : (wordsV s i).length ≤ 3 := by
  unfold wordsV
  rw [List.length_append, List.length_append]
  split <;> split <;> (try split) <;> simp
theorem ins_eq {s : shape} {k A B : Int} {w : List ByteArray} (hA : (insV s k w).a = A) (hB : (insV s k w).b = B) : insV s k w = ⟨k, A, B⟩ := by
  subst hA hB; rfl
theorem insA_t {s : shape} {k : Int} {w : List ByteArray} (h1 : s.a = true) (h2 : 1 < w.length) : (insV s k w).a = argV w 1 := if_pos ⟨h1, h2⟩
theorem insA_f {s : shape} {k : Int} {w : List ByteArray} (h1 : s.a = false) : (insV s k w).a = 0 := if_neg fun q => by rw [h1] at q; cases q.1
theorem insA_g {s : shape} {k : Int} {w : List ByteArray} (h1 : ¬ 1 < w.length) : (insV s k w).a = 0 := if_neg fun q => h1 q.2
theorem insB_0 {s : shape} {k : Int} {w : List ByteArray} (h1 : s.b.n = 0) : (insV s k w).b = 0 := if_neg fun q => q.1 h1
theorem insB_l {s : shape} {k : Int} {w : List ByteArray} (h1 : w.length ≤ 1) : (insV s k w).b = 0 := if_neg fun q => by
  have := q.2
  unfold posB at this
  split at this <;> omega
theorem insB_2 {s : shape} {k : Int} {w : List ByteArray} (h0 : ¬ s.b.n = 0) (h1 : s.a = true) (h2 : 2 < w.length) : (insV s k w).b = argV w 2 := by
  have e : posB s w = 2 := if_pos ⟨h1, by omega⟩
  show (if _ then argV w (posB s w) else 0) = _
  rw [e, if_pos ⟨h0, h2⟩]
theorem insB_g {s : shape} {k : Int} {w : List ByteArray} (h1 : s.a = true) (h3 : 1 < w.length) (h2 : w.length ≤ 2) : (insV s k w).b = 0 := by
  have e : posB s w = 2 := if_pos ⟨h1, h3⟩
  refine if_neg fun q => ?_
  rw [e] at q
  omega
theorem insB_1 {s : shape} {k : Int} {w : List ByteArray} (h0 : ¬ s.b.n = 0) (h1 : s.a = false) (h2 : 1 < w.length) : (insV s k w).b = argV w 1 := by
  have e : posB s w = 1 := if_neg fun q => by rw [h1] at q; cases q.1
  show (if _ then argV w (posB s w) else 0) = _
  rw [e, if_pos ⟨h0, h2⟩]
theorem zero_in : (-9223372036854775808 : Int) ≤ 0 ∧ (0 : Int) ≤ 9223372036854775807 := by decide
structure eqStr_X (l m : List ByteArray) where
  k : Nat
  hk : k ≤ l.length
  hv : ∀ j, j < k → l.getD j Dat.d0 = m.getD j Dat.d0
def eqStr_R (r : Th (Bool)) : AV := .b fun _ => (r ())
def eqStr_S (l : (List ByteArray)) (m : (List ByteArray)) : Bool := decide (l = m)
def eqStr_P (l : (List ByteArray)) (m : (List ByteArray)) : Prop := l.length ≤ 9223372036854775807
def eqStr_D : Det := fun A => match A with
  | [l, m] => some (fun _ => Leaf.ok (List ByteArray) l ∧ Leaf.ok (List ByteArray) m ∧ eqStr_P (Leaf.val l) (Leaf.val m), eqStr_R fun _ => eqStr_S (Leaf.val l) (Leaf.val m))
  | _ => none
set_option maxRecDepth 100000 in
set_option maxHeartbeats 4000000 in
theorem eqStr_vc (l : (List ByteArray)) (m : (List ByteArray)) (hp : eqStr_P l m) : FnOk Tryd.prog 41 [Leaf.av fun _ => l, Leaf.av fun _ => m] [] (outA (eqStr_R fun _ => eqStr_S l m) []) := by
  refine fn_ok envOk zl noCon_ok (draws_ok envOk zl noDet_ok mixed) (keep := [0, 1, 4, 5, 10, 12, 13, 14, 24]) Tryd.func41 rfl ?_
  have hp' : l.length ≤ 9223372036854775807 := hp
  have fin : ∀ (b : Bool) H kl, b = decide (l = m) → outA (eqStr_R fun _ => eqStr_S l m) [] (.bc b) H kl := by
    rintro b H kl rfl
    cbv
    repeat' first | (refine Stp.mk ?_; cbv) | (refine Gen.mk fun r hr => ?_; (try simp only [Dat.ok, Dat.dec, Leaf.ok, Leaf.val, Z0, Z1, val_sl, val_nil] at hr); cbv) | exact trivial | rfl | refine Both.mk ?_ ?_ | (refine Imp.mk fun h => ?_; (try dsimp only at h); (try simp only [nc, Int.toNat_natCast, ne_eq, zz] at h); (try simp only [nc] at h)) | refine Ob.mk ?_ ?_ | refine Chk.mk (by kernel_rfl) ?_ | refine Eq'.mk ?_ | (refine AllN.mk fun i hi => ?_; cbv) | (refine AllC.mk fun c hc hcm => ?_; (try dsimp only at hc); cbv) | (refine AllS.mk fun r hr => ?_; (try simp only [Dat.ok, Dat.dec, Leaf.ok, Leaf.val, Z0, Z1, val_sl] at hr); cbv)
  generalize outA (eqStr_R fun _ => eqStr_S l m) [] = K at fin
  cbv
  refine Both.mk (Imp.mk fun h1 => ?_) (Imp.mk fun h1 => ?_)
  all_goals (refine Stp.mk ?_; cbv; (try dsimp only at h1); (try simp only [nc, Int.toNat_natCast, ne_eq, zz] at h1); (try simp only [nc] at h1))
  · refine fin _ _ _ ?_
    exact (decide_eq_false (fun h => by subst h; omega)).symm
  · have hlen : l.length = m.length := by omega
    refine LoopVC.frame [4, 5, 13, 14, 24] (eqStr_X l m) (fun x => [(13, .i .i64 fun _ => x.k)]) (fun _ => []) [] (fun x => l.length - x.k)
      ⟨0, Nat.zero_le _, fun j hj => absurd hj (Nat.not_lt_zero _)⟩ rfl (fun _ => rfl) ?_ ?_ fun ⟨k, hk, hv⟩ => ?_
    · cbv
      repeat' first | (refine Stp.mk ?_; cbv) | (refine Gen.mk fun r hr => ?_; (try simp only [Dat.ok, Dat.dec, Leaf.ok, Leaf.val, Z0, Z1, val_sl, val_nil] at hr); cbv) | exact trivial | rfl | refine Both.mk ?_ ?_ | (refine Imp.mk fun h => ?_; (try dsimp only at h); (try simp only [nc, Int.toNat_natCast, ne_eq, zz] at h); (try simp only [nc] at h)) | refine Ob.mk ?_ ?_ | refine Chk.mk (by kernel_rfl) ?_ | refine Eq'.mk ?_ | (refine AllN.mk fun i hi => ?_; cbv) | (refine AllC.mk fun c hc hcm => ?_; (try dsimp only at hc); cbv) | (refine AllS.mk fun r hr => ?_; (try simp only [Dat.ok, Dat.dec, Leaf.ok, Leaf.val, Z0, Z1, val_sl] at hr); cbv)
    · cbv
    · cbv
      repeat' first | (refine Stp.mk ?_; cbv) | (refine Gen.mk fun r hr => ?_; (try simp only [Dat.ok, Dat.dec, Leaf.ok, Leaf.val, Z0, Z1, val_sl, val_nil] at hr); cbv) | exact trivial | rfl | refine Both.mk ?_ ?_ | (refine Imp.mk fun h => ?_; (try dsimp only at h); (try simp only [nc, Int.toNat_natCast, ne_eq, zz] at h); (try simp only [nc] at h)) | refine Ob.mk ?_ ?_ | refine Chk.mk (by kernel_rfl) ?_ | refine Eq'.mk ?_ | (refine AllN.mk fun i hi => ?_; cbv) | (refine AllC.mk fun c hc hcm => ?_; (try dsimp only at hc); cbv) | (refine AllS.mk fun r hr => ?_; (try simp only [Dat.ok, Dat.dec, Leaf.ok, Leaf.val, Z0, Z1, val_sl] at hr); cbv)
      all_goals ((try dsimp only at *); (try simp only [nc, Int.toNat_natCast, ne_eq, zz] at *); (try simp only [nc] at *))
      all_goals first
        | omega
        | (unfold InR; omega)
        | (refine fin _ _ _ (decide_eq_true ?_).symm
           apply List.ext_getElem hlen
           intro i h1 h2
           have := hv i (by omega)
           simpa [h1, h2] using this)
        | (refine fin _ _ _ (decide_eq_false fun h => ?_).symm
           subst h
           simp_all; done)
        | skip
      all_goals (
        refine ⟨⟨k + 1, by omega, fun j hj => ?_⟩, ?_, trivial, rfl, by (try dsimp only); omega⟩
        · rcases Nat.lt_succ_iff_lt_or_eq.1 hj with hj | rfl
          · exact hv j hj
          · first | assumption | (generalize l.getD j Dat.d0 = a at *; generalize m.getD j Dat.d0 = b at *; cases a; cases b; simp_all; done)
        · cbv
          repeat' first | (refine Stp.mk ?_; cbv) | (refine Gen.mk fun r hr => ?_; (try simp only [Dat.ok, Dat.dec, Leaf.ok, Leaf.val, Z0, Z1, val_sl, val_nil] at hr); cbv) | exact trivial | rfl | refine Both.mk ?_ ?_ | (refine Imp.mk fun h => ?_; (try dsimp only at h); (try simp only [nc, Int.toNat_natCast, ne_eq, zz] at h); (try simp only [nc] at h)) | refine Ob.mk ?_ ?_ | refine Chk.mk (by kernel_rfl) ?_ | refine Eq'.mk ?_ | (refine AllN.mk fun i hi => ?_; cbv) | (refine AllC.mk fun c hc hcm => ?_; (try dsimp only at hc); cbv) | (refine AllS.mk fun r hr => ?_; (try simp only [Dat.ok, Dat.dec, Leaf.ok, Leaf.val, Z0, Z1, val_sl] at hr); cbv))
theorem eqStr_ok : PcOk Tryd.prog 41 (detPC eqStr_D) := det_okA fun A p r h hp0 => by
  unfold eqStr_D at h
  split at h
  · rename_i l m
    cases h
    obtain ⟨g0, g1, hp⟩ := hp0
    exact ⟨rfl, FnOk.pre (A' := [Leaf.av fun _ => (Leaf.val l : (List ByteArray)), Leaf.av fun _ => (Leaf.val m : (List ByteArray))]) (eqStr_vc (Leaf.val l) (Leaf.val m) hp) (.mk (Leaf.hle _ g0) (.mk (Leaf.hle _ g1) (trivial)))⟩
  · cases h
def dRd : FuncId → Option Dt := fun f => match f with
  | 40 => some (.c trimC_D)
  | 39 => some (.c numC_D)
  | 18 => some (.f wordsF_D)
  | 41 => some (.c eqStr_D)
  | _ => none
theorem dRd_ok : DetOk Tryd.prog dRd := fun f d h => by
  unfold dRd at h
  split at h
  · cases h; exact ⟨⟨Tryd.f40, Tryd.func40, by kernel_rfl, by kernel_rfl⟩, trimC_ok⟩
  · cases h; exact ⟨⟨Tryd.f39, Tryd.func39, by kernel_rfl, by kernel_rfl⟩, numC_ok⟩
  · cases h; exact ⟨⟨Tryd.f18, Tryd.func18, by kernel_rfl, by kernel_rfl⟩, wordsF_okF⟩
  · cases h; exact ⟨⟨Tryd.f41, Tryd.func41, by kernel_rfl, by kernel_rfl⟩, eqStr_ok⟩
  · cases h
noncomputable def cRd : FuncId → Con := fun f => match f with
  | 40 => pureCon (detPC trimC_D)
  | 39 => pureCon (detPC numC_D)
  | 18 => frCon wordsF_D
  | 41 => pureCon (detPC eqStr_D)
  | _ => fun _ _ _ => Bad 1001
theorem cRd_ok : ConOk Tryd.prog cRd := fun f A H K h => by
  unfold cRd at h
  split at h
  · exact ⟨⟨Tryd.f40, Tryd.func40, by kernel_rfl, by kernel_rfl⟩, pureCon_ok trimC_ok h⟩
  · exact ⟨⟨Tryd.f39, Tryd.func39, by kernel_rfl, by kernel_rfl⟩, pureCon_ok numC_ok h⟩
  · exact ⟨⟨Tryd.f18, Tryd.func18, by kernel_rfl, by kernel_rfl⟩, frCon_ok wordsF_okF h⟩
  · exact ⟨⟨Tryd.f41, Tryd.func41, by kernel_rfl, by kernel_rfl⟩, pureCon_ok eqStr_ok h⟩
  · cases h
def readC_R (r : Th (Ins × Bool)) : AV := .tup [.agg [.i .i64 fun _ => (r ()).1.code, .i .i64 fun _ => (r ()).1.a, .i .i64 fun _ => (r ()).1.b], .b fun _ => (r ()).2]
def readC_P (s : shape) (k : Int) (w : (List ByteArray)) : Prop := 0 < w.length ∧ w.length ≤ 1048576 ∧ ∀ x ∈ w, x.size ≤ 281474976710656
def readC_D : Det := fun A => match A with
  | [.agg s, .i .i64 k, w] => some (fun _ => Dat.ok shape s ∧ Leaf.ok (List ByteArray) w ∧ readC_P (Dat.dec s) (k ()) (Leaf.val w), readC_R fun _ => readV (Dat.dec s) (k ()) (Leaf.val w))
  | _ => none
set_option maxRecDepth 100000 in
set_option maxHeartbeats 4000000 in
theorem readC_vc (s : shape) (k : Int) (w : (List ByteArray)) (hp : readC_P s k w) : FnOk Tryd.prog 25 [.agg (Dat.enc fun _ => s), .i .i64 fun _ => k, Leaf.av fun _ => w] [] (outA (readC_R fun _ => readV s k w) []) := by
  refine fn_ok envOk zl cRd_ok (draws_ok envOk zl dRd_ok mixed) (keep := [0, 1, 2, 3, 6, 7, 8, 9, 20, 36]) Tryd.func25 rfl ?_
  cbv
  repeat' first | (show Stp _; exfalso; first | omega | (exact h ‹_›) | (exact absurd ‹_› h) | (exact Bool.false_ne_true (h.symm.trans (show _ = true by assumption)))) | (refine Stp.mk ?_; cbv) | (refine Gen.mk fun r hr => ?_; (try simp only [Dat.ok, Dat.dec, Leaf.ok, Leaf.val, Z0, Z1, val_sl, val_nil] at hr); cbv) | exact trivial | rfl | refine Both.mk ?_ ?_ | (refine Imp.mk fun h => ?_; (try dsimp only at h); (try simp only [nc, Int.toNat_natCast, ne_eq, zz] at h); (try simp only [nc] at h)) | refine Ob.mk ?_ ?_ | refine Chk.mk (by kernel_rfl) ?_ | refine Eq'.mk ?_ | (refine AllN.mk fun i hi => ?_; cbv) | (refine AllC.mk fun c hc hcm => ?_; (try dsimp only at hc); cbv) | (refine AllS.mk fun r hr => ?_; (try simp only [Dat.ok, Dat.dec, Leaf.ok, Leaf.val, Z0, Z1, val_sl] at hr); cbv)
  all_goals ((try dsimp only at *); (try simp only [nc, Int.toNat_natCast, ne_eq, zz] at *); (try simp only [nc] at *))
  all_goals try simp only [Dat.dec, Leaf.val, Z0, Z1, val_sl] at *
  all_goals obtain ⟨hp1, hp2, hp3⟩ := hp
  all_goals have wz : ∀ i, (w.getD i Dat.d0).size ≤ 281474976710656 := fun i => by (
    rw [List.getD_eq_getElem?_getD]
    cases h : w[i]? with
    | none => exact Nat.zero_le _
    | some x => exact hp3 x (List.mem_of_getElem? h))
  all_goals first
    | (exfalso; omega)
    | exact ⟨by omega, by omega⟩
    | exact ⟨by omega, by omega, by omega⟩
    | exact Nat.le_trans (trim_size _ _) (wz _)
    | exact ⟨Dat.hok fun _ => s, Dat.hok fun _ => (Ins.mk k _ _), num_in _, num_in _⟩
    | exact ⟨Dat.hok fun _ => s, Dat.hok fun _ => (Ins.mk k _ _), num_in _, zero_in⟩
    | exact ⟨Dat.hok fun _ => s, Dat.hok fun _ => (Ins.mk k _ _), zero_in, num_in _⟩
    | exact ⟨Dat.hok fun _ => s, Dat.hok fun _ => (Ins.mk k _ _), zero_in, zero_in⟩
    | exact ⟨⟨rfl, fun i _ => Dat.hok _⟩, ⟨rfl, fun i _ => Dat.hok _⟩, Nat.le_trans (words_len _ _) (by decide)⟩
    | exact (insA_t (by assumption) (by omega)).symm
    | exact (insA_f (by assumption)).symm
    | exact (insA_g (by omega)).symm
    | exact (insB_0 (by assumption)).symm
    | exact (insB_l (by omega)).symm
    | exact (insB_2 (by assumption) (by assumption) (by omega)).symm
    | exact (insB_g (by assumption) (by omega) (by omega)).symm
    | exact (insB_1 (by assumption) (by assumption) (by omega)).symm
    | (refine congrArg (fun i => decide (wordsV s i = w)) (ins_eq ?_ ?_).symm
       · first
           | exact insA_t (by assumption) (by omega)
           | exact insA_f (by assumption)
           | exact insA_g (by omega)
       · first
           | exact insB_0 (by assumption)
           | exact insB_l (by omega)
           | exact insB_2 (by assumption) (by assumption) (by omega)
           | exact insB_g (by assumption) (by omega) (by omega)
           | exact insB_1 (by assumption) (by assumption) (by omega))
    | fail
theorem readC_ok : PcOk Tryd.prog 25 (detPC readC_D) := det_okA fun A p r h hp0 => by
  unfold readC_D at h
  split at h
  · rename_i s k w
    cases h
    obtain ⟨g0, g1, hp⟩ := hp0
    exact ⟨rfl, FnOk.pre (A' := [.agg (Dat.enc fun _ => (Dat.dec s : shape)), .i .i64 fun _ => k (), Leaf.av fun _ => (Leaf.val w : (List ByteArray))]) (readC_vc (Dat.dec s) (k ()) (Leaf.val w) hp) (.mk (Dat.hle _ g0) (.mk (.mk (.mk rfl) (.mk rfl)) (.mk (Leaf.hle _ g1) (trivial))))⟩
  · cases h

end Go.Proofs.YtebiaihhpflpgaaDoor
