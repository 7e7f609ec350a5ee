/- Blanks about words, lines without words, and what stands behind a ; are no matter; for all inputs. -/
import Derived.Test.YtebiaihhpflpgaaDoorPgrL
import Derived.Test.YtebiaihhpflpgaaDoorPgrC
import Derived.Test.YtebiaihhpflpgaaDoorStrs3
import Derived.Test.YtebiaihhpflpgaaDoorStrs5
import Derived.Test.YtebiaihhpflpgaaDoorCards
import Derived.Test.YtebiaihhpflpgaaDoorTie
import Derived.Deep.DeepHandedRow
import Derived.Stop.LaidErr
import Derived.Shelf.Vars
set_option linter.all false
namespace Go.Proofs.YtebiaihhpflpgaaDoor
open Go Go.Abs

attribute [local irreducible] printV parseV splitV replV joinV
structure eqIns_X (l m : List Ins) where
  k : Nat
  hk : k ≤ l.length
  hv : ∀ j, j < k → l.getD j Dat.d0 = m.getD j Dat.d0
def eqIns_R (r : Th (Bool)) : AV := .b fun _ => (r ())
def eqIns_S (l : (List Ins)) (m : (List Ins)) : Bool := decide (l = m)
def eqIns_P (l : (List Ins)) (m : (List Ins)) : Prop := l.length ≤ 9223372036854775807
def eqIns_D : Det := fun A => match A with
  | [l, m] => some (fun _ => Leaf.ok (List Ins) l ∧ Leaf.ok (List Ins) m ∧ eqIns_P (Leaf.val l) (Leaf.val m), eqIns_R fun _ => eqIns_S (Leaf.val l) (Leaf.val m))
  | _ => none
set_option maxRecDepth 100000 in
set_option maxHeartbeats 4000000 in
theorem eqIns_vc (l : (List Ins)) (m : (List Ins)) (hp : eqIns_P l m) : FnOk Tryd.prog 8 [Leaf.av fun _ => l, Leaf.av fun _ => m] [] (outA (eqIns_R fun _ => eqIns_S l m) []) := by
  refine fn_ok envOk zl noCon_ok (draws_ok envOk zl noDet_ok mixed) (keep := [0, 1, 4, 5, 10, 12, 13, 14, 24]) Tryd.func8 rfl ?_
  have hp' : l.length ≤ 9223372036854775807 := hp
  have fin : ∀ (b : Bool) H kl, b = decide (l = m) → outA (eqIns_R fun _ => eqIns_S l m) [] (.bc b) H kl := by
    rintro b H kl rfl
    cbv
    repeat' first | (refine Stp.mk ?_; cbv) | (refine Gen.mk fun r hr => ?_; (try simp only [Dat.ok, Dat.dec, Leaf.ok, Leaf.val, Z0, Z1, val_sl, val_nil] at hr); cbv) | exact trivial | rfl | refine Both.mk ?_ ?_ | (refine Imp.mk fun h => ?_; (try dsimp only at h); (try simp only [nc, Int.toNat_natCast, ne_eq, zz] at h); (try simp only [nc] at h)) | refine Ob.mk ?_ ?_ | refine Chk.mk (by kernel_rfl) ?_ | refine Eq'.mk ?_ | (refine AllN.mk fun i hi => ?_; cbv) | (refine AllC.mk fun c hc hcm => ?_; (try dsimp only at hc); cbv) | (refine AllS.mk fun r hr => ?_; (try simp only [Dat.ok, Dat.dec, Leaf.ok, Leaf.val, Z0, Z1, val_sl] at hr); cbv)
  generalize outA (eqIns_R fun _ => eqIns_S l m) [] = K at fin
  cbv
  refine Both.mk (Imp.mk fun h1 => ?_) (Imp.mk fun h1 => ?_)
  all_goals (refine Stp.mk ?_; cbv; (try dsimp only at h1); (try simp only [nc, Int.toNat_natCast, ne_eq, zz] at h1); (try simp only [nc] at h1))
  · refine fin _ _ _ ?_
    exact (decide_eq_false (fun h => by subst h; omega)).symm
  · have hlen : l.length = m.length := by omega
    refine LoopVC.frame [4, 5, 13, 14, 24] (eqIns_X l m) (fun x => [(13, .i .i64 fun _ => x.k)]) (fun _ => []) [] (fun x => l.length - x.k)
      ⟨0, Nat.zero_le _, fun j hj => absurd hj (Nat.not_lt_zero _)⟩ rfl (fun _ => rfl) ?_ ?_ fun ⟨k, hk, hv⟩ => ?_
    · cbv
      repeat' first | (refine Stp.mk ?_; cbv) | (refine Gen.mk fun r hr => ?_; (try simp only [Dat.ok, Dat.dec, Leaf.ok, Leaf.val, Z0, Z1, val_sl, val_nil] at hr); cbv) | exact trivial | rfl | refine Both.mk ?_ ?_ | (refine Imp.mk fun h => ?_; (try dsimp only at h); (try simp only [nc, Int.toNat_natCast, ne_eq, zz] at h); (try simp only [nc] at h)) | refine Ob.mk ?_ ?_ | refine Chk.mk (by kernel_rfl) ?_ | refine Eq'.mk ?_ | (refine AllN.mk fun i hi => ?_; cbv) | (refine AllC.mk fun c hc hcm => ?_; (try dsimp only at hc); cbv) | (refine AllS.mk fun r hr => ?_; (try simp only [Dat.ok, Dat.dec, Leaf.ok, Leaf.val, Z0, Z1, val_sl] at hr); cbv)
    · cbv
    · cbv
      repeat' first | (refine Stp.mk ?_; cbv) | (refine Gen.mk fun r hr => ?_; (try simp only [Dat.ok, Dat.dec, Leaf.ok, Leaf.val, Z0, Z1, val_sl, val_nil] at hr); cbv) | exact trivial | rfl | refine Both.mk ?_ ?_ | (refine Imp.mk fun h => ?_; (try dsimp only at h); (try simp only [nc, Int.toNat_natCast, ne_eq, zz] at h); (try simp only [nc] at h)) | refine Ob.mk ?_ ?_ | refine Chk.mk (by kernel_rfl) ?_ | refine Eq'.mk ?_ | (refine AllN.mk fun i hi => ?_; cbv) | (refine AllC.mk fun c hc hcm => ?_; (try dsimp only at hc); cbv) | (refine AllS.mk fun r hr => ?_; (try simp only [Dat.ok, Dat.dec, Leaf.ok, Leaf.val, Z0, Z1, val_sl] at hr); cbv)
      all_goals ((try dsimp only at *); (try simp only [nc, Int.toNat_natCast, ne_eq, zz] at *); (try simp only [nc] at *))
      all_goals first
        | omega
        | (unfold InR; omega)
        | (refine fin _ _ _ (decide_eq_true ?_).symm
           apply List.ext_getElem hlen
           intro i h1 h2
           have := hv i (by omega)
           simpa [h1, h2] using this)
        | (refine fin _ _ _ (decide_eq_false fun h => ?_).symm
           subst h
           simp_all; done)
        | skip
      all_goals (
        refine ⟨⟨k + 1, by omega, fun j hj => ?_⟩, ?_, trivial, rfl, by (try dsimp only); omega⟩
        · rcases Nat.lt_succ_iff_lt_or_eq.1 hj with hj | rfl
          · exact hv j hj
          · first | assumption | (generalize l.getD j Dat.d0 = a at *; generalize m.getD j Dat.d0 = b at *; cases a; cases b; simp_all; done)
        · cbv
          repeat' first | (refine Stp.mk ?_; cbv) | (refine Gen.mk fun r hr => ?_; (try simp only [Dat.ok, Dat.dec, Leaf.ok, Leaf.val, Z0, Z1, val_sl, val_nil] at hr); cbv) | exact trivial | rfl | refine Both.mk ?_ ?_ | (refine Imp.mk fun h => ?_; (try dsimp only at h); (try simp only [nc, Int.toNat_natCast, ne_eq, zz] at h); (try simp only [nc] at h)) | refine Ob.mk ?_ ?_ | refine Chk.mk (by kernel_rfl) ?_ | refine Eq'.mk ?_ | (refine AllN.mk fun i hi => ?_; cbv) | (refine AllC.mk fun c hc hcm => ?_; (try dsimp only at hc); cbv) | (refine AllS.mk fun r hr => ?_; (try simp only [Dat.ok, Dat.dec, Leaf.ok, Leaf.val, Z0, Z1, val_sl] at hr); cbv))
theorem eqIns_ok : PcOk Tryd.prog 8 (detPC eqIns_D) := det_okA fun A p r h hp0 => by
  unfold eqIns_D at h
  split at h
  · rename_i l m
    cases h
    obtain ⟨g0, g1, hp⟩ := hp0
    exact ⟨rfl, FnOk.pre (A' := [Leaf.av fun _ => (Leaf.val l : (List Ins)), Leaf.av fun _ => (Leaf.val m : (List Ins))]) (eqIns_vc (Leaf.val l) (Leaf.val m) hp) (.mk (Leaf.hle _ g0) (.mk (Leaf.hle _ g1) (trivial)))⟩
  · cases h
noncomputable def cBl : FuncId → Con := fun f => match f with
  | 6 => pureCon (detPC printC_D)
  | 12 => pureCon (detPC containsC_D)
  | 10 => pureCon splitC_C
  | 13 => insC_K
  | 11 => pureCon (detPC joinC_D)
  | 14 => pureCon (detPC replC_D)
  | 7 => pureCon parseC2_C
  | 9 => pureCon (detPC plives_D)
  | 8 => pureCon (detPC eqIns_D)
  | _ => fun _ _ _ => Bad 1001
theorem cBl_ok : ConOk Tryd.prog cBl := fun f A H K h => by
  unfold cBl at h
  split at h
  · exact ⟨⟨Tryd.f6, Tryd.func6, by kernel_rfl, by kernel_rfl⟩, pureCon_ok printC_ok h⟩
  · exact ⟨⟨Tryd.f12, Tryd.func12, by kernel_rfl, by kernel_rfl⟩, pureCon_ok containsC_ok h⟩
  · exact ⟨⟨Tryd.f10, Tryd.func10, by kernel_rfl, by kernel_rfl⟩, pureCon_ok splitC_ok h⟩
  · exact ⟨⟨Tryd.f13, Tryd.func13, by kernel_rfl, by kernel_rfl⟩, insC_ok h⟩
  · exact ⟨⟨Tryd.f11, Tryd.func11, by kernel_rfl, by kernel_rfl⟩, pureCon_ok joinC_ok h⟩
  · exact ⟨⟨Tryd.f14, Tryd.func14, by kernel_rfl, by kernel_rfl⟩, pureCon_ok replC_ok h⟩
  · exact ⟨⟨Tryd.f7, Tryd.func7, by kernel_rfl, by kernel_rfl⟩, pureCon_ok parseC2_ok h⟩
  · exact ⟨⟨Tryd.f9, Tryd.func9, by kernel_rfl, by kernel_rfl⟩, pureCon_ok plives_ok h⟩
  · exact ⟨⟨Tryd.f8, Tryd.func8, by kernel_rfl, by kernel_rfl⟩, pureCon_ok eqIns_ok h⟩
  · cases h
theorem clamp {n : Nat} {z : Int} : ∃ k : Nat, k ≤ n ∧ (if 0 < (if (n : Int) < z then (n : Int) else z) then (if (n : Int) < z then (n : Int) else z) else 0) = (k : Int) := by
  by_cases h : (n : Int) < z
  · simp only [if_pos h]
    by_cases h0 : 0 < (n : Int)
    · exact ⟨n, Nat.le_refl _, by rw [if_pos h0]⟩
    · exact ⟨0, Nat.zero_le _, by rw [if_neg h0]; rfl⟩
  · simp only [if_neg h]
    by_cases h0 : 0 < z
    · exact ⟨z.toNat, by omega, by rw [if_pos h0]; omega⟩
    · exact ⟨0, Nat.zero_le _, by rw [if_neg h0]; rfl⟩
theorem split_pos (s : ByteArray) : 0 < (splitV s nl1).length := by
  rw [split_nl, List.length_map]
  exact List.length_pos_iff.2 (splitC_ne _)
theorem print_le {p : List Ins} (h : (printV p).2 = 0) : (printV p).1.size ≤ 7000 := by
  obtain ⟨hc, e⟩ := print_ok2 h
  have C := check_iff.1 hc
  have hpl := C.1
  have q := linesV_size (p := p) fun i hi => right_in (by omega) (C.2 i hi)
  rw [e]
  omega
set_option maxRecDepth 100000 in
set_option maxHeartbeats 4000000 in
theorem pgblanks_vc (p : (List Ins)) (note : ByteArray) (ix : Int) (fit_p : Siz.fit p) (fit_note : Siz.fit note) (fit_ix : Siz.fit ix) (hB : Siz.bulk p + Siz.bulk note + Siz.bulk ix ≤ 1048576) : FnOk Tryd.prog 5 [Leaf.av fun _ => p, .s fun _ => note, .i .i64 fun _ => ix] [] (outA (.bc true) []) := by
  refine fn_ok envOk zl cBl_ok noDraws_ok (keep := [0, 1, 2, 6, 7, 8, 9, 10, 11, 12, 14, 37]) Tryd.func5 rfl ?_
  have fin := @fin_b
  have finc := @fin_t
  have e40 : maxLen ≤ 9223372036854775807 := by unfold maxLen; decide
  have pl : p.length ≤ 9223372036854775807 := Nat.le_trans fit_p.1 e40
  have nb : note.size + 1 ≤ 1048576 := by
    have : Siz.bulk note = note.size + 1 := rfl
    omega
  generalize outA (.bc true) [] = K at fin finc
  cbv
  repeat' first | (show Stp _; exfalso; first | omega | (exact h ‹_›) | (exact absurd ‹_› h) | (exact Bool.false_ne_true (h.symm.trans (show _ = true by assumption)))) | (refine Stp.mk ?_; cbv) | (refine Gen.mk fun r hr => ?_; (try simp only [Dat.ok, Dat.dec, Leaf.ok, Leaf.val, Z0, Z1, val_sl, val_nil] at hr); cbv) | exact trivial | rfl | refine Both.mk ?_ ?_ | (refine Imp.mk fun h => ?_; (try dsimp only at h); (try simp only [nc, Int.toNat_natCast, ne_eq, zz] at h); (try simp only [nc] at h)) | refine Ob.mk ?_ ?_ | refine Chk.mk (by kernel_rfl) ?_ | refine Eq'.mk ?_ | (refine AllN.mk fun i hi => ?_; cbv) | (refine AllC.mk fun c hc hcm => ?_; (try dsimp only at hc); cbv) | (refine AllS.mk fun r hr => ?_; (try simp only [Dat.ok, Dat.dec, Leaf.ok, Leaf.val, Z0, Z1, val_sl] at hr); cbv)
  all_goals ((try dsimp only at *); (try simp only [nc, Int.toNat_natCast, ne_eq, zz] at *); (try simp only [nc] at *))
  all_goals try simp only [Dat.dec, Leaf.val, Z0, Z1, val_sl] at *
  all_goals try subst_vars
  all_goals have C := @clamp (splitV (printV p).1 ⟨⟨[10]⟩⟩).length ix
  all_goals obtain ⟨k, hk, ek⟩ := C
  all_goals first
    | (have := print_le (by assumption); show InR _; unfold InR; omega)
    | exact ⟨⟨rfl, fun i _ => Dat.hok _⟩, pl⟩
    | exact finc
    | (unfold InR; omega)
    | (show InR _; unfold InR; omega)
    | (show note.size < 4294967281; omega)
    | (refine ⟨?_, by decide⟩; omega)
    | (show 1 + note.size ≤ _; omega)
    | (refine .mk (splitV (printV p).1 nl1) (blankL note) k (split_pos _) (by show 0 < 2; decide) hk ?_ rfl ?_ ?_ ?_
       · have z1 := splitV_len (c := 10) (s := (printV p).1)
         have z2 : (splitV (printV p).1 nl1).length ≤ (printV p).1.size + 1 := z1
         show ((splitV (printV p).1 nl1).length + 2) * 16 ≤ _
         omega
       · cbv
         repeat' first | (refine Stp.mk ?_; cbv) | (refine Gen.mk fun r hr => ?_; (try simp only [Dat.ok, Dat.dec, Leaf.ok, Leaf.val, Z0, Z1, val_sl, val_nil] at hr); cbv) | exact trivial | rfl | refine Both.mk ?_ ?_ | (refine Imp.mk fun h => ?_; (try dsimp only at h); (try simp only [nc, Int.toNat_natCast, ne_eq, zz] at h); (try simp only [nc] at h)) | refine Ob.mk ?_ ?_ | refine Chk.mk (by kernel_rfl) ?_ | refine Eq'.mk ?_ | (refine AllN.mk fun i hi => ?_; cbv) | (refine AllC.mk fun c hc hcm => ?_; (try dsimp only at hc); cbv) | (refine AllS.mk fun r hr => ?_; (try simp only [Dat.ok, Dat.dec, Leaf.ok, Leaf.val, Z0, Z1, val_sl] at hr); cbv)
         all_goals first
           | exact ek
           | fail
       · cbv
         repeat' first | (refine Stp.mk ?_; cbv) | (refine Gen.mk fun r hr => ?_; (try simp only [Dat.ok, Dat.dec, Leaf.ok, Leaf.val, Z0, Z1, val_sl, val_nil] at hr); cbv) | exact trivial | rfl | refine Both.mk ?_ ?_ | (refine Imp.mk fun h => ?_; (try dsimp only at h); (try simp only [nc, Int.toNat_natCast, ne_eq, zz] at h); (try simp only [nc] at h)) | refine Ob.mk ?_ ?_ | refine Chk.mk (by kernel_rfl) ?_ | refine Eq'.mk ?_ | (refine AllN.mk fun i hi => ?_; cbv) | (refine AllC.mk fun c hc hcm => ?_; (try dsimp only at hc); cbv) | (refine AllS.mk fun r hr => ?_; (try simp only [Dat.ok, Dat.dec, Leaf.ok, Leaf.val, Z0, Z1, val_sl] at hr); cbv)
         all_goals first
           | (have hi2 : i < 2 := by assumption
              rcases i with _ | _ | i
              all_goals first
                | omega
                | (cbv
                   repeat' first | (refine Stp.mk ?_; cbv) | (refine Gen.mk fun r hr => ?_; (try simp only [Dat.ok, Dat.dec, Leaf.ok, Leaf.val, Z0, Z1, val_sl, val_nil] at hr); cbv) | exact trivial | rfl | refine Both.mk ?_ ?_ | (refine Imp.mk fun h => ?_; (try dsimp only at h); (try simp only [nc, Int.toNat_natCast, ne_eq, zz] at h); (try simp only [nc] at h)) | refine Ob.mk ?_ ?_ | refine Chk.mk (by kernel_rfl) ?_ | refine Eq'.mk ?_ | (refine AllN.mk fun i hi => ?_; cbv) | (refine AllC.mk fun c hc hcm => ?_; (try dsimp only at hc); cbv) | (refine AllS.mk fun r hr => ?_; (try simp only [Dat.ok, Dat.dec, Leaf.ok, Leaf.val, Z0, Z1, val_sl] at hr); cbv)))
           | fail
       · cbv
         repeat' first | (show Stp _; exfalso; first | omega | (exact h ‹_›) | (exact absurd ‹_› h) | (exact Bool.false_ne_true (h.symm.trans (show _ = true by assumption)))) | (refine Stp.mk ?_; cbv) | (refine Gen.mk fun r hr => ?_; (try simp only [Dat.ok, Dat.dec, Leaf.ok, Leaf.val, Z0, Z1, val_sl, val_nil] at hr); cbv) | exact trivial | rfl | refine Both.mk ?_ ?_ | (refine Imp.mk fun h => ?_; (try dsimp only at h); (try simp only [nc, Int.toNat_natCast, ne_eq, zz] at h); (try simp only [nc] at h)) | refine Ob.mk ?_ ?_ | refine Chk.mk (by kernel_rfl) ?_ | refine Eq'.mk ?_ | (refine AllN.mk fun i hi => ?_; cbv) | (refine AllC.mk fun c hc hcm => ?_; (try dsimp only at hc); cbv) | (refine AllS.mk fun r hr => ?_; (try simp only [Dat.ok, Dat.dec, Leaf.ok, Leaf.val, Z0, Z1, val_sl] at hr); cbv)
         all_goals ((try dsimp only at *); (try simp only [nc, Int.toNat_natCast, ne_eq, zz] at *); (try simp only [nc] at *))
         all_goals try rw [nc] at *
         all_goals try simp only [Dat.dec, Leaf.val, Z0, Z1, val_sl] at *
         all_goals have nc2 : Lib.contains note.data.toList [10] = false := by assumption
         all_goals have hz : (printV p).2 = 0 := by assumption
         all_goals have hs : (printV p).1.size + note.size ≤ 3000 := by omega
         all_goals have js := ins_size hs k
         all_goals have cl := cnt_le (joinV (insR (splitV (printV p).1 nl1) (blankL note) k) (sepB note))
         all_goals have bl := blank_law hz nc2 k
         all_goals have lg := @large_law (wideV (printV p).1 note k)
         all_goals try have hr2 : r = parseV (wideV (printV p).1 note k) := by assumption
         all_goals first
           | exact Nat.le_refl _
           | (show 2 + note.size ≤ _; omega)
           | (rw [ByteArray.size_append]; show 2 + note.size + 3 ≤ _; omega)
           | (refine ⟨⟨rfl, fun i _ => Dat.hok _⟩, ?_, Nat.le_trans js (by decide)⟩
              have z1 := splitV_len (c := 10) (s := (printV p).1)
              have z2 : (splitV (printV p).1 nl1).length ≤ (printV p).1.size + 1 := z1
              rw [insR_len (l := splitV (printV p).1 nl1) (m := blankL note) hk]
              show (splitV (printV p).1 nl1).length + 2 ≤ _
              omega)
           | (refine ⟨Nat.lt_of_le_of_lt js (by decide), by decide, ?_⟩
              show (joinV (insR (splitV (printV p).1 nl1) (blankL note) k) (sepB note)).size + Lib.countB (joinV (insR (splitV (printV p).1 nl1) (blankL note) k) (sepB note)) sp1 * 2 ≤ _
              omega)
           | exact ⟨⟨rfl, fun i _ => Dat.hok _⟩, ⟨rfl, fun i _ => Dat.hok _⟩, pl⟩
           | exact finc
           | (refine fin ?_
              refine decide_eq_true ?_
              by_cases q : (wideV (printV p).1 note k).size ≤ 10000
              · exfalso
                have h9 : ¬ r.2.2 = 0 := by assumption
                exact h9 (by rw [hr2, bl q])
              · show (10000 : Int) < ((wideV (printV p).1 note k).size : Int)
                omega)
           | (exfalso
              by_cases q : (wideV (printV p).1 note k).size ≤ 10000
              · have e := hr2.trans (bl q)
                subst e
                first
                  | contradiction
                  | (have h9 : eqIns_S p p = false := by assumption
                     exact absurd (h9.symm.trans (decide_eq_true rfl)) (by decide))
              · have e := hr2.trans (lg q)
                subst e
                contradiction)
           | fail)
    | fail
section
open Go.ChangeShapes Go.WideShapes Go.ChangeAt Go.RowKit Go.Joins Go.Deep
set_option linter.unusedVariables false
theorem pgblanks_own : ownKnob Tryd.prog.godebug = none := by kernel_rfl
theorem pgblanks_tab3 {W : World} (h : laidMetH Tryd.prog Rows.progBlanksUptoRow.laid W) : Lib.TabIs Tryd.prog W "internal/strconv.uint64pow10" .u64 Lib.pow10Tab := by
  have h2 : laidMet Tryd.prog (Rows.progBlanksUptoRow.laid.drop 2) W := laidMet.tail (laidMet.tail (h))
  have hT : (Tryd.prog.globals[3]?).map (·.type) = some 117 := by kernel_rfl
  have hz : Lib.pow10Tab = [1, 10, 100, 1000, 10000, 100000, 1000000, 10000000, 100000000, 1000000000, 10000000000, 100000000000, 1000000000000, 10000000000000, 100000000000000, 1000000000000000, 10000000000000000, 100000000000000000, 1000000000000000000, 10000000000000000000] := by decide +kernel
  rw [hz]
  exact Lib.tabIs_of_head (n := 20) (e := 91) (by kernel_rfl) hT (by kernel_rfl) (by kernel_rfl) (by kernel_rfl) (by kernel_rfl) h2
theorem pgblanks_dom {W : World} (h : laidMetH Tryd.prog Rows.progBlanksUptoRow.laid W) (hsh : W.ShapedOpen Tryd.prog) : Dom W fun _ => False := by
  have ht := pgblanks_tab3 h
  have vlt : ∀ {n : String} {g : Nat} {cs : Array Value}, Tryd.prog.globalNamed n = some g → W.var? Tryd.prog n = some cs → g < W.heap.size := fun {n g cs} hg hv => by
    unfold World.var? at hv
    rw [hg] at hv
    rcases Nat.lt_or_ge g W.heap.size with q | q
    · exact q
    · simp [Array.getElem?_eq_none q] at hv
  have clt : ∀ {a : Addr} {v : Value}, W.cell? a = some v → a.block < W.heap.size := fun {a v} hv => by
    rcases Nat.lt_or_ge a.block W.heap.size with q | q
    · exact q
    · simp [World.cell?, Array.getElem?_eq_none q] at hv
  have h0 := cell_of_shapedOpen_int (P := Tryd.prog) (g := 0) (t := 3) (zero := #[.int .i64 0]) (k := .i64) hsh (of_decide_eq_true (by kernel_rfl)) (by kernel_rfl) rfl (by kernel_rfl) (by kernel_rfl) (by kernel_rfl)
  have g1 : laidMet Tryd.prog (Rows.progBlanksUptoRow.laid.drop 5) W := laidMet.tail (laidMet.tail (laidMet.tail (laidMet.tail (laidMet.tail (h)))))
  have h1 : ∃ t p, W.var? Tryd.prog "strconv.ErrSyntax" = some #[.iface t p] := by
    have st : "*" ++ "errors.errorString" = "*errors.errorString" := by decide
    have hr : ∀ u, Tryd.prog.typeName? 3 u = some "*errors.errorString" → u = 126 := fun u hu => typeName_ptr_named (nm := "errors.errorString") (by rw [st]; kernel_rfl) (by kernel_rfl) (by decide) u (by rw [st]; exact hu)
    obtain ⟨a, _, h1, _⟩ := laid_sentinel (g := 4) (ti := 48) (tp := 126) (te := 128) (ts := 9) (ms := #[("Error", 54)]) g1 (by kernel_rfl) (by kernel_rfl) Tryd.underlying48 hr Tryd.underlying126 Tryd.underlying128 rfl rfl (by kernel_rfl) (by kernel_rfl) (by kernel_rfl)
    exact ⟨_, _, h1⟩
  have g2 : laidMet Tryd.prog (Rows.progBlanksUptoRow.laid.drop 4) W := laidMet.tail (laidMet.tail (laidMet.tail (laidMet.tail (h))))
  have h2 : ∃ t p, W.var? Tryd.prog "strconv.ErrRange" = some #[.iface t p] := by
    have st : "*" ++ "errors.errorString" = "*errors.errorString" := by decide
    have hr : ∀ u, Tryd.prog.typeName? 3 u = some "*errors.errorString" → u = 126 := fun u hu => typeName_ptr_named (nm := "errors.errorString") (by rw [st]; kernel_rfl) (by kernel_rfl) (by decide) u (by rw [st]; exact hu)
    obtain ⟨a, _, h1, _⟩ := laid_sentinel (g := 5) (ti := 48) (tp := 126) (te := 128) (ts := 9) (ms := #[("Error", 54)]) g2 (by kernel_rfl) (by kernel_rfl) Tryd.underlying48 hr Tryd.underlying126 Tryd.underlying128 rfl rfl (by kernel_rfl) (by kernel_rfl) (by kernel_rfl)
    exact ⟨_, _, h1⟩
  have l3 : 3 < W.heap.size := by
    have hv := ht
    unfold Lib.TabIs World.var? at hv
    rw [show Tryd.prog.globalNamed "internal/strconv.uint64pow10" = some 3 by kernel_rfl] at hv
    rcases Nat.lt_or_ge 3 W.heap.size with q | q
    · exact q
    · simp [Array.getElem?_eq_none q] at hv
  have m0 : 0 < W.heap.size := clt h0.choose_spec
  have m1 : 4 < W.heap.size := (by obtain ⟨t, p, e⟩ := h1; exact vlt (g := 4) (by kernel_rfl) e)
  have m2 : 5 < W.heap.size := (by obtain ⟨t, p, e⟩ := h2; exact vlt (g := 5) (by kernel_rfl) e)
  refine ⟨fun _ h => h.elim, fun g hg => ⟨?_, fun h => h⟩, ht, h0, h1, h2⟩
  simp [Kd.tl, kdI] at hg
  rcases hg with rfl | rfl | rfl | rfl <;> assumption
def pgblanks_setC (cs : Array Value) : Obj → Obj
  | .cells _ t frozen => .cells cs t frozen
  | o => o
noncomputable def pgblanks_low : Nat := (World.holding Tryd.prog default ⟨#[], #[], []⟩).heap.size
noncomputable def pgblanks_laidWorld (os : Os) : World :=
  { World.holding Tryd.prog os ⟨#[.cells #[.string ⟨#[118, 97, 108, 117, 101, 32, 111, 117, 116, 32, 111, 102, 32, 114, 97, 110, 103, 101]⟩] 128, .cells #[.string ⟨#[105, 110, 118, 97, 108, 105, 100, 32, 115, 121, 110, 116, 97, 120]⟩] 128], #[], []⟩ with heap := ((((((((World.holding Tryd.prog os ⟨#[.cells #[.string ⟨#[118, 97, 108, 117, 101, 32, 111, 117, 116, 32, 111, 102, 32, 114, 97, 110, 103, 101]⟩] 128, .cells #[.string ⟨#[105, 110, 118, 97, 108, 105, 100, 32, 115, 121, 110, 116, 97, 120]⟩] 128], #[], []⟩).heap).modify 6 (pgblanks_setC #[.int .u8 0, .int .u8 1, .int .u8 28, .int .u8 2, .int .u8 29, .int .u8 14, .int .u8 24, .int .u8 3, .int .u8 30, .int .u8 22, .int .u8 20, .int .u8 15, .int .u8 25, .int .u8 17, .int .u8 4, .int .u8 8, .int .u8 31, .int .u8 27, .int .u8 13, .int .u8 23, .int .u8 21, .int .u8 19, .int .u8 16, .int .u8 7, .int .u8 26, .int .u8 12, .int .u8 18, .int .u8 6, .int .u8 11, .int .u8 5, .int .u8 10, .int .u8 9])).modify 7 (pgblanks_setC #[.int .u8 0, .int .u8 1, .int .u8 56, .int .u8 2, .int .u8 57, .int .u8 49, .int .u8 28, .int .u8 3, .int .u8 61, .int .u8 58, .int .u8 42, .int .u8 50, .int .u8 38, .int .u8 29, .int .u8 17, .int .u8 4, .int .u8 62, .int .u8 47, .int .u8 59, .int .u8 36, .int .u8 45, .int .u8 43, .int .u8 51, .int .u8 22, .int .u8 53, .int .u8 39, .int .u8 33, .int .u8 30, .int .u8 24, .int .u8 18, .int .u8 12, .int .u8 5, .int .u8 63, .int .u8 55, .int .u8 48, .int .u8 27, .int .u8 60, .int .u8 41, .int .u8 37, .int .u8 16, .int .u8 46, .int .u8 35, .int .u8 44, .int .u8 21, .int .u8 52, .int .u8 32, .int .u8 23, .int .u8 11, .int .u8 54, .int .u8 26, .int .u8 40, .int .u8 15, .int .u8 34, .int .u8 20, .int .u8 31, .int .u8 10, .int .u8 25, .int .u8 14, .int .u8 19, .int .u8 9, .int .u8 13, .int .u8 8, .int .u8 7, .int .u8 6])).modify 3 (pgblanks_setC #[.int .u64 1, .int .u64 10, .int .u64 100, .int .u64 1000, .int .u64 10000, .int .u64 100000, .int .u64 1000000, .int .u64 10000000, .int .u64 100000000, .int .u64 1000000000, .int .u64 10000000000, .int .u64 100000000000, .int .u64 1000000000000, .int .u64 10000000000000, .int .u64 100000000000000, .int .u64 1000000000000000, .int .u64 10000000000000000, .int .u64 100000000000000000, .int .u64 1000000000000000000, .int .u64 10000000000000000000])).modify 2 (pgblanks_setC #[.int .u8 128, .int .u8 191, .int .u8 160, .int .u8 191, .int .u8 128, .int .u8 159, .int .u8 144, .int .u8 191, .int .u8 128, .int .u8 143, .int .u8 0, .int .u8 0, .int .u8 0, .int .u8 0, .int .u8 0, .int .u8 0, .int .u8 0, .int .u8 0, .int .u8 0, .int .u8 0, .int .u8 0, .int .u8 0, .int .u8 0, .int .u8 0, .int .u8 0, .int .u8 0, .int .u8 0, .int .u8 0, .int .u8 0, .int .u8 0, .int .u8 0, .int .u8 0])).modify 5 (pgblanks_setC #[.iface 126 (.pointer (some ⟨pgblanks_low + 0, 0, none⟩))])).modify 4 (pgblanks_setC #[.iface 126 (.pointer (some ⟨pgblanks_low + 1, 0, none⟩))])).modify 1 (pgblanks_setC ((Go.Pinned.utf8FirstZ.map fun n : Nat => Value.int .u8 (n : Int)).toArray)) }
theorem pgblanks_laid_met (os : Os) : laidMet Tryd.prog Rows.progBlanksUptoRow.laid ((pgblanks_laidWorld os).forCall (fun _ _ => 0) ⟨#[], #[.slice none 0 0, .string .empty, .int .i64 0], []⟩).memory :=
  laidMet_of_run' 8 (by kernel_rfl) (by kernel_rfl)
theorem pgblanks_reads (os : Os) {H : Type} (enc : TypeId × Value → H) : ∃ places, DataW.whole enc Tryd.prog ((pgblanks_laidWorld os).forCall (fun _ _ => 0) ⟨#[], #[.slice none 0 0, .string .empty, .int .i64 0], []⟩).memory Tryd.f5.params.toList Rows.progBlanksSpec.vars false (#[.slice none 0 0, .string .empty, .int .i64 0] : Array Value).toList 8 = some ([.nil, .lit (.string []), .lit (.int .i64 0)], [], places) :=
  ⟨[], by kernel_rfl⟩
theorem pgblanks_laidOut : laidOutB Tryd.prog = true := by kernel_rfl
theorem pgblanks_readOk {ts : Array TypeId} (h : ts.toList.all (fun t => Tryd.prog.readableRec t && decide (t < Tryd.prog.types.size)) = true) : ∀ t ∈ ts.toList, Tryd.prog.readableRec t = true ∧ t < Tryd.prog.types.size := fun t ht => by
  have := List.all_eq_true.1 h t ht
  simpa using this
mutual
theorem pgblanks_bD {H : Type} : ∀ d : DataW H, Rows.uptoBulk d = bulkD d
  | .lit l => by cases l <;> simp [Rows.uptoBulk, bulkD]
  | .nil => by simp [Rows.uptoBulk, bulkD]
  | .ptr d => by simp [Rows.uptoBulk, bulkD, pgblanks_bD d]
  | .slice a b => by simp [Rows.uptoBulk, bulkD, pgblanks_bL a, pgblanks_bL b]
  | .agg a => by simp [Rows.uptoBulk, bulkD, pgblanks_bL a]
  | .iface _ d => by simp [Rows.uptoBulk, bulkD, pgblanks_bD d]
  | .map e => by simp [Rows.uptoBulk, bulkD, pgblanks_bE e]
  | .held _ => by simp [Rows.uptoBulk, bulkD]
theorem pgblanks_bL {H : Type} : ∀ d : List (DataW H), Rows.uptoBulkAll d = bulkL d
  | [] => by simp [Rows.uptoBulkAll, bulkL]
  | d :: r => by simp [Rows.uptoBulkAll, bulkL, pgblanks_bD d, pgblanks_bL r]
theorem pgblanks_bE {H : Type} : ∀ d : List (Lit × DataW H), Rows.uptoBulkEntries d = bulkE d
  | [] => by simp [Rows.uptoBulkEntries, bulkE]
  | d :: r => by simp [Rows.uptoBulkEntries, bulkE, pgblanks_bX d, pgblanks_bE r]
theorem pgblanks_bX {H : Type} : ∀ d : Lit × DataW H, Rows.uptoBulkEntry d = bulkX d
  | (l, d) => by cases l <;> simp [Rows.uptoBulkEntry, bulkX, pgblanks_bD d]
end
set_option maxRecDepth 100000 in
theorem pgblanks_lifted (os : Os) (started : os.Started) (H : Type) (enc : TypeId × Value → H) (F : Stop.Interp) :
    ReturnsInHanded {} Tryd.checked os 5 .any ((Rows.OpenSpec.upto Rows.progBlanksSpec).preRow enc Tryd.prog Tryd.f5 Rows.progBlanksUptoRow.domain false Rows.progBlanksUptoRow.laid) (((Rows.OpenSpec.upto Rows.progBlanksSpec).at F).post enc Tryd.prog Tryd.f5 false true false false) := by
  obtain ⟨places, hx⟩ := pgblanks_reads os enc
  refine returnsInHanded_of_row (C := Tryd.checked) (s := Rows.OpenSpec.upto Rows.progBlanksSpec) pgblanks_own started (by kernel_rfl) Tryd.func5
    (witness_row_at (enc := enc) (C := Tryd.checked) false (pgblanks_laidWorld os) #[.slice none 0 0, .string .empty, .int .i64 0] rfl (by kernel_rfl) (by kernel_rfl) (by kernel_rfl)
      (OpenSpec.preRow_of_cond 8 hx (by kernel_rfl) (fun k hk => by cases hk; kernel_rfl) (by kernel_rfl) (pgblanks_laid_met os))) ?_
  intro W base args ds gs before hval0 hW _ hk0 _ hL hsh9 _
  have hk := hk0 _ rfl
  show Calls Tryd.prog 5 args W fun e W' => ∃ v, e = .returned v ∧ Rows.progBlanksSpec.post enc Tryd.prog Tryd.f5 false true false false W args v W'
  have hval : ∀ (j : Nat) t v, Tryd.f5.params[j]? = some t → args[j]? = some v → Value.okWide Tryd.prog W .any base t v := hval0
  have hW' := hW
  have hlt := hW.lt
  obtain ⟨p, q, hA0, hV, rfl, hfz, hnd⟩ := hW
  have hA : DataW.TrodAll enc Tryd.prog W 0 (fun _ => true) true Tryd.f5.params.toList args.toList ds p := hA0
  have hA1 := hA
  rw [Tryd.params5] at hA hval
  obtain ⟨v0, vs0, d0, ds0, p0, q0, hargs, rfl, rfl, h0, r0⟩ := trodAll_cons hA
  obtain ⟨v1, vs1, d1, ds1, p1, q1, rfl, rfl, rfl, h1, r1⟩ := trodAll_cons r0
  obtain ⟨v2, vs2, d2, ds2, p2, q2, rfl, rfl, rfl, h2, r2⟩ := trodAll_cons r1
  obtain ⟨rfl, rfl, rfl⟩ := trodAll_nil r2
  obtain rfl : args = #[v0, v1, v2] := by cases args; simp_all
  obtain ⟨rfl, rfl⟩ := trodVars_none hV
  obtain ⟨z0, z'0, z''0, rfl⟩ := okWide_slice Tryd.underlying22 (hval 0 22 v0 rfl rfl)
  obtain ⟨y0, u0, b0, e0⟩ := arg_leaf (α := (List Ins)) (opn_slice Tryd.underlying22 (by kernel_rfl) (by decide) opn_Ins) rfl h0
  obtain ⟨z1, rfl⟩ := okWide_string Tryd.underlying9 (hval 1 9 v1 rfl rfl)
  obtain ⟨y1, u1, b1, e1⟩ := arg_leaf (α := ByteArray) (opn_str Tryd.underlying9) rfl h1
  obtain ⟨z2, rfl⟩ := okWide_int Tryd.underlying3 (hval 2 3 v2 rfl rfl)
  obtain ⟨y2, u2, b2, e2⟩ := arg_leaf (α := Int) (opn_int Tryd.underlying3) rfl h2
  have hB : Siz.bulk y0 + Siz.bulk y1 + Siz.bulk y2 ≤ 1048576 := by
    have h := of_decide_eq_true hk
    rw [pgblanks_bL] at h
    simp only [List.append_nil, bulkL] at h
    omega
  have hR := repL_cons (M := fun _ => False) (β := fun _ => none) (cp := fun _ => 0) (.c e0) (repL_cons (M := fun _ => False) (β := fun _ => none) (cp := fun _ => 0) (.c e1) (repL_cons (M := fun _ => False) (β := fun _ => none) (cp := fun _ => 0) (.c e2) (repL_nil)))
  refine (law_callsA (pgblanks_vc y0 y1 y2 u0 u1 u2 hB) hR (pgblanks_dom hL hsh9)).mono fun e W' ⟨he, bel⟩ => ?_
  subst he
  exact ⟨_, rfl, _, _, _, [], _, [], hW', trodAll_mk1 (shut_bool Tryd.underlying4 _), trodAll_below pgblanks_laidOut bel (pgblanks_readOk (by kernel_rfl)) (fun x hx => hlt x (List.mem_append_left _ hx)) hA1, rfl, bel.frame _, fun h => by cases h⟩
theorem pgblanks_bare : Rows.ProgBlanksUptoSaid :=
  OpenClaim.holds_of_cond 5 Tryd.f5 rfl rfl rfl rfl rfl rfl rfl ⟨rfl, rfl, rfl, rfl, rfl⟩ rfl rfl rfl rfl rfl (by kernel_rfl) Tryd.func5 (by kernel_rfl)
    (of_decide_eq_true (by kernel_rfl)) (by unfold Func.isWrapper; first | (rw [if_pos (by decide +kernel)]; kernel_rfl) | (rw [if_neg (by decide +kernel)]; exact ⟨rfl, rfl⟩))
    (fun os started H enc _ F => by rw [OpenClaim.pre_eq_preRow]; exact pgblanks_lifted os started H enc F)
theorem pgblanks_plain (f : FuncId) (fn : Func) (hf : Tryd.pinned.checked.prog.funcNamed "dutyroster/dutykeep.ProgBlanks" = some f) (hfn : Tryd.pinned.checked.prog.funcs[f]? = some fn) :
    true = Tryd.pinned.checked.prog.looks [] ∧ ∀ (j : Nat) t, fn.params[j]? = some t → Tryd.pinned.checked.prog.wantsStandIn t = false := by
  obtain rfl : f = 5 := Option.some.inj ((show Tryd.prog.funcNamed "dutyroster/dutykeep.ProgBlanks" = some 5 by kernel_rfl).symm.trans hf) |>.symm
  obtain rfl : fn = Tryd.f5 := (Option.some.inj (Tryd.func5.symm.trans hfn)).symm
  refine ⟨by kernel_rfl, fun j t ht => ?_⟩
  rw [Tryd.params5] at ht
  have hm := Array.mem_of_getElem? ht
  simp at hm
  rcases hm with rfl | rfl | rfl
  all_goals (show Tryd.prog.wantsStandIn _ = false; kernel_rfl)
set_option maxRecDepth 100000 in
theorem ProgBlanks_proved : Rows.ProgBlanksUptoCardSaid :=
  Claim7.holds_tied_plain_at .later [] _ _ _ _ pgblanks_bare (fun _ h => by cases h) (by kernel_rfl) (fun _ h => by cases h) progBlanksUpto_row_tie rfl ⟨rfl, rfl⟩ (by kernel_rfl) rfl pgblanks_plain (by kernel_rfl)
end

end Go.Proofs.YtebiaihhpflpgaaDoor
