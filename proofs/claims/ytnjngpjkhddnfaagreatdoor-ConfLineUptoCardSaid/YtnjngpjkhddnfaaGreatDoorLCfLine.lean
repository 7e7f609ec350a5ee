/- What stands behind the first line that can't stand there is no matter; without it none is told there; for all inputs. -/
import Derived.Test.YtnjngpjkhddnfaaGreatDoorConfL
import Derived.Test.YtnjngpjkhddnfaaGreatDoorConfQ
import Derived.Test.YtnjngpjkhddnfaaGreatDoorCards
import Derived.Test.YtnjngpjkhddnfaaGreatDoorTie
import Derived.Deep.DeepHandedRow
import Derived.Stop.LaidErr
import Derived.Shelf.Vars
set_option linter.all false
namespace Go.Proofs.YtnjngpjkhddnfaaGreatDoor
open Go Go.Abs

attribute [local irreducible] readV
noncomputable def cCn : FuncId → Con := fun f => match f with
  | 19 => pureCon splitC_C
  | 20 => pureCon (detPC joinC_D)
  | 17 => pureCon readC_C
  | 10 => pureCon (detPC clives_D)
  | _ => fun _ _ _ => Bad 1001
theorem cCn_ok : ConOk Tryz.prog cCn := fun f A H K h => by
  unfold cCn at h
  split at h
  · exact ⟨⟨Tryz.f19, Tryz.func19, by kernel_rfl, by kernel_rfl⟩, pureCon_ok splitC_ok h⟩
  · exact ⟨⟨Tryz.f20, Tryz.func20, by kernel_rfl, by kernel_rfl⟩, pureCon_ok joinC_ok h⟩
  · exact ⟨⟨Tryz.f17, Tryz.func17, by kernel_rfl, by kernel_rfl⟩, pureCon_ok readC_ok h⟩
  · exact ⟨⟨Tryz.f10, Tryz.func10, by kernel_rfl, by kernel_rfl⟩, pureCon_ok clives_ok h⟩
  · cases h
def dCn : FuncId → Option Dt := fun f => match f with
  | 20 => some (.c joinC_D)
  | 10 => some (.c clives_D)
  | _ => none
theorem dCn_ok : DetOk Tryz.prog dCn := fun f d h => by
  unfold dCn at h
  split at h
  · cases h; exact ⟨⟨Tryz.f20, Tryz.func20, by kernel_rfl, by kernel_rfl⟩, joinC_ok⟩
  · cases h; exact ⟨⟨Tryz.f10, Tryz.func10, by kernel_rfl, by kernel_rfl⟩, clives_ok⟩
  · cases h
structure AhX (S : List ByteArray) (n : Nat) where
  k : Nat
  o : ByteArray
  hk : k ≤ n
  ho : o.size ≤ 200000 * k
  hr : o = flatB nlB (S.take k)
theorem lines_le {s : ByteArray} {k : Nat} (h : k < (splitV s nl1).length) : ((splitV s nl1).getD k Dat.d0).size ≤ s.size := splitV_le (getD_mem' h)
theorem ah_next {S : List ByteArray} {k : Nat} (h : k < S.length) : flatB nlB (S.take k) ++ (S.getD k Dat.d0 ++ nl1) = flatB nlB (S.take (k + 1)) := (flat_take h).symm
set_option maxRecDepth 100000 in
set_option maxHeartbeats 4000000 in
theorem cfline_vc (s : ByteArray) (more : ByteArray) (fit_s : Siz.fit s) (fit_more : Siz.fit more) (hB : Siz.bulk s + Siz.bulk more ≤ 1048576) : FnOk Tryz.prog 6 [.s fun _ => s, .s fun _ => more] [] (outA (.bc true) []) := by
  refine fn_ok envOk zl cCn_ok (draws_ok envOk zl dCn_ok mixed) (keep := [0, 1, 4, 6, 7, 8, 9, 11, 13, 14, 16, 17, 29, 44, 56, 59, 60, 61, 62, 82]) Tryz.func6 rfl ?_
  have fin := @fin_b
  have finc := @fin_t
  have bs : s.size + 1 + (more.size + 1) ≤ 1048576 := hB
  generalize outA (.bc true) [] = K at fin finc
  cbv
  repeat' first | (show Stp _; exfalso; first | omega | (exact h ‹_›) | (exact absurd ‹_› h) | (exact Bool.false_ne_true (h.symm.trans (show _ = true by assumption)))) | (refine Stp.mk ?_; cbv) | (refine Gen.mk fun r hr => ?_; (try simp only [Dat.ok, Dat.dec, Leaf.ok, Leaf.val, Z0, Z1, Z2, Z3, Z4, Z5, Z6, Z7, val_sl, val_nil] at hr); cbv) | exact trivial | rfl | refine Both.mk ?_ ?_ | (refine Imp.mk fun h => ?_; (try dsimp only at h); (try simp only [nc, Int.toNat_natCast, ne_eq, zz] at h); (try simp only [nc] at h)) | refine Ob.mk ?_ ?_ | refine Chk.mk (by kernel_rfl) ?_ | refine Eq'.mk ?_ | (refine AllN.mk fun i hi => ?_; cbv) | (refine AllC.mk fun c hc hcm => ?_; (try dsimp only at hc); cbv) | (refine AllS.mk fun r hr => ?_; (try simp only [Dat.ok, Dat.dec, Leaf.ok, Leaf.val, Z0, Z1, Z2, Z3, Z4, Z5, Z6, Z7, val_sl] at hr); cbv)
  all_goals ((try dsimp only at *); (try simp only [nc, Int.toNat_natCast, ne_eq, zz] at *); (try simp only [nc] at *))
  all_goals try simp only [Dat.dec, Leaf.val, Z0, Z1, Z2, Z3, Z4, Z5, Z6, Z7, val_sl] at *
  all_goals try subst_vars
  all_goals have bl : (splitV s nl1).length ≤ s.size + 1 := splitV_len
  all_goals try first
    | (refine fin ?_
       rw [rd_not (by assumption)]; rfl)
    | exact ⟨by omega, by decide⟩
    | (unfold InR; omega)
    | exact finc
  all_goals obtain ⟨n, LN⟩ := line_ok more (by assumption)
  all_goals have e := LN.e
  all_goals simp only [e] at *
  all_goals have le := LN.le
  all_goals have bl2 : ((splitV s ⟨⟨[10]⟩⟩).length : Int) = ((splitV s nl1).length : Int) := rfl
  all_goals try first
    | omega
    | exact ⟨trivial, by omega, by omega⟩
  refine LoopVC.frame [9, 11, 61, 62] (AhX (splitV s nl1) n) (fun x => [(61, .i .i64 fun _ => x.k), (9, .s fun _ => x.o)]) (fun _ => []) [] (fun x => n - x.k) ⟨0, .empty, Nat.zero_le _, Nat.zero_le _, rfl⟩ rfl (fun _ => rfl) ?_ ?_ fun ⟨k, o, hk, ho, hr⟩ => ?_
  · cbv
    repeat' first | (refine Stp.mk ?_; cbv) | (refine Gen.mk fun r hr => ?_; (try simp only [Dat.ok, Dat.dec, Leaf.ok, Leaf.val, Z0, Z1, Z2, Z3, Z4, Z5, Z6, Z7, val_sl, val_nil] at hr); cbv) | exact trivial | rfl | refine Both.mk ?_ ?_ | (refine Imp.mk fun h => ?_; (try dsimp only at h); (try simp only [nc, Int.toNat_natCast, ne_eq, zz] at h); (try simp only [nc] at h)) | refine Ob.mk ?_ ?_ | refine Chk.mk (by kernel_rfl) ?_ | refine Eq'.mk ?_ | (refine AllN.mk fun i hi => ?_; cbv) | (refine AllC.mk fun c hc hcm => ?_; (try dsimp only at hc); cbv) | (refine AllS.mk fun r hr => ?_; (try simp only [Dat.ok, Dat.dec, Leaf.ok, Leaf.val, Z0, Z1, Z2, Z3, Z4, Z5, Z6, Z7, val_sl] at hr); cbv)
    all_goals fail
  · cbv
    repeat' first | (refine Stp.mk ?_; cbv) | (refine Gen.mk fun r hr => ?_; (try simp only [Dat.ok, Dat.dec, Leaf.ok, Leaf.val, Z0, Z1, Z2, Z3, Z4, Z5, Z6, Z7, val_sl, val_nil] at hr); cbv) | exact trivial | rfl | refine Both.mk ?_ ?_ | (refine Imp.mk fun h => ?_; (try dsimp only at h); (try simp only [nc, Int.toNat_natCast, ne_eq, zz] at h); (try simp only [nc] at h)) | refine Ob.mk ?_ ?_ | refine Chk.mk (by kernel_rfl) ?_ | refine Eq'.mk ?_ | (refine AllN.mk fun i hi => ?_; cbv) | (refine AllC.mk fun c hc hcm => ?_; (try dsimp only at hc); cbv) | (refine AllS.mk fun r hr => ?_; (try simp only [Dat.ok, Dat.dec, Leaf.ok, Leaf.val, Z0, Z1, Z2, Z3, Z4, Z5, Z6, Z7, val_sl] at hr); cbv)
    all_goals fail
  cbv
  repeat' first | (show Stp _; exfalso; first | omega | (exact h ‹_›) | (exact absurd ‹_› h) | (exact Bool.false_ne_true (h.symm.trans (show _ = true by assumption)))) | (refine Stp.mk ?_; cbv) | (refine Gen.mk fun r hr => ?_; (try simp only [Dat.ok, Dat.dec, Leaf.ok, Leaf.val, Z0, Z1, Z2, Z3, Z4, Z5, Z6, Z7, val_sl, val_nil] at hr); cbv) | exact trivial | rfl | refine Both.mk ?_ ?_ | (refine Imp.mk fun h => ?_; (try dsimp only at h); (try simp only [nc, Int.toNat_natCast, ne_eq, zz] at h); (try simp only [nc] at h)) | refine Ob.mk ?_ ?_ | refine Chk.mk (by kernel_rfl) ?_ | refine Eq'.mk ?_ | (refine AllN.mk fun i hi => ?_; cbv) | (refine AllC.mk fun c hc hcm => ?_; (try dsimp only at hc); cbv) | (refine AllS.mk fun r hr => ?_; (try simp only [Dat.ok, Dat.dec, Leaf.ok, Leaf.val, Z0, Z1, Z2, Z3, Z4, Z5, Z6, Z7, val_sl] at hr); cbv)
  all_goals ((try dsimp only at *); (try simp only [nc, Int.toNat_natCast, ne_eq, zz] at *); (try simp only [nc] at *))
  all_goals try rw [nc] at *
  all_goals try simp only [Dat.dec, Leaf.val, Z0, Z1, Z2, Z3, Z4, Z5, Z6, Z7, val_sl] at *
  all_goals try subst_vars
  all_goals have nlr : (⟨⟨[10]⟩⟩ : ByteArray) = nl1 := rfl
  all_goals simp only [nlr] at *
  all_goals have n1 : nl1.size = 1 := rfl
  all_goals have tz := take_size s (n + 1)
  all_goals have t2 : _ = (splitV s nl1).take (n + 1) := (val_take (splitV s nl1) 1 ((n : Int) + 1).toNat (by omega)).trans (by rw [show ((n : Int) + 1).toNat = n + 1 by omega])
  all_goals try simp only [t2] at *
  all_goals have kw : k < (splitV s nl1).length → ((splitV s nl1).getD k Dat.d0).size ≤ s.size := fun h => lines_le h
  all_goals try first
    | omega
    | exact ⟨by omega, by omega⟩
    | exact ⟨trivial, by omega, by omega⟩
    | (unfold InR; omega)
    | exact finc
    | (have := kw (by omega); omega)
    | (have := kw (by omega); rw [ByteArray.size_append]; omega)
    | (have := kw (by omega); rw [ByteArray.size_append, ByteArray.size_append]; omega)
    | (rw [ByteArray.size_append]; omega)
  all_goals first
    | (have kn : k = n := by omega
       skip)
    | (have kw := kw (by omega)
       have z9 := ah_next (S := splitV s nl1) (k := k) (by omega)
       refine ⟨⟨k + 1, flatB nlB ((splitV s nl1).take (k + 1)), by omega, by
         rw [flat_take (by omega), ByteArray.size_append]
         have : (nlB ((splitV s nl1).getD k Dat.d0)).size ≤ s.size + 1 := by
           unfold nlB
           rw [ByteArray.size_append, show (bzl [10]).size = 1 from rfl]; omega
         omega, rfl⟩, ?_, ?_, rfl, by (try dsimp only); omega⟩
       · cbv
         repeat' first | (refine Stp.mk ?_; cbv) | (refine Gen.mk fun r hr => ?_; (try simp only [Dat.ok, Dat.dec, Leaf.ok, Leaf.val, Z0, Z1, Z2, Z3, Z4, Z5, Z6, Z7, val_sl, val_nil] at hr); cbv) | exact trivial | rfl | refine Both.mk ?_ ?_ | (refine Imp.mk fun h => ?_; (try dsimp only at h); (try simp only [nc, Int.toNat_natCast, ne_eq, zz] at h); (try simp only [nc] at h)) | refine Ob.mk ?_ ?_ | refine Chk.mk (by kernel_rfl) ?_ | refine Eq'.mk ?_ | (refine AllN.mk fun i hi => ?_; cbv) | (refine AllC.mk fun c hc hcm => ?_; (try dsimp only at hc); cbv) | (refine AllS.mk fun r hr => ?_; (try simp only [Dat.ok, Dat.dec, Leaf.ok, Leaf.val, Z0, Z1, Z2, Z3, Z4, Z5, Z6, Z7, val_sl] at hr); cbv)
         all_goals exact z9
       · cbv
         repeat' first | (refine Stp.mk ?_; cbv) | (refine Gen.mk fun r hr => ?_; (try simp only [Dat.ok, Dat.dec, Leaf.ok, Leaf.val, Z0, Z1, Z2, Z3, Z4, Z5, Z6, Z7, val_sl, val_nil] at hr); cbv) | exact trivial | rfl | refine Both.mk ?_ ?_ | (refine Imp.mk fun h => ?_; (try dsimp only at h); (try simp only [nc, Int.toNat_natCast, ne_eq, zz] at h); (try simp only [nc] at h)) | refine Ob.mk ?_ ?_ | refine Chk.mk (by kernel_rfl) ?_ | refine Eq'.mk ?_ | (refine AllN.mk fun i hi => ?_; cbv) | (refine AllC.mk fun c hc hcm => ?_; (try dsimp only at hc); cbv) | (refine AllS.mk fun r hr => ?_; (try simp only [Dat.ok, Dat.dec, Leaf.ok, Leaf.val, Z0, Z1, Z2, Z3, Z4, Z5, Z6, Z7, val_sl] at hr); cbv))
  all_goals have kn : k = n := by omega
  all_goals subst kn
  all_goals have la := LN.ahead (by omega)
  all_goals have lr := LN.rest (by omega) (by omega)
  all_goals try first
    | exact ⟨⟨rfl, fun i _ => Dat.hok _⟩, by rw [List.length_take]; omega, Nat.le_trans tz (by omega)⟩
    | exact absurd (by assumption) (la (by assumption))
    | (refine fin ?_
       rcases lr with q | q
       · first
           | exact absurd q.2 (by assumption)
           | exact absurd q.1 (by assumption)
       · show (((splitV s nl1).getD k Dat.d0).toList == (⟨⟨[]⟩⟩ : ByteArray).toList) = true
         rw [q.2]; exact beq_self_eq_true ByteArray.empty.toList)
    | (exfalso
       rcases lr with q | q
       · first
           | exact absurd q.2 (by assumption)
           | exact absurd q.1 (by assumption)
       · omega)
section
open Go.ChangeShapes Go.WideShapes Go.ChangeAt Go.RowKit Go.Joins Go.Deep
set_option linter.unusedVariables false
theorem cfline_own : ownKnob Tryz.prog.godebug = none := by kernel_rfl
theorem cfline_tab3 {W : World} (h : laidMetH Tryz.prog Rows.confLineUptoRow.laid W) : Lib.TabIs Tryz.prog W "internal/strconv.uint64pow10" .u64 Lib.pow10Tab := by
  have h2 : laidMet Tryz.prog (Rows.confLineUptoRow.laid.drop 2) W := laidMet.tail (laidMet.tail (h))
  have hT : (Tryz.prog.globals[3]?).map (·.type) = some 198 := by kernel_rfl
  have hz : Lib.pow10Tab = [1, 10, 100, 1000, 10000, 100000, 1000000, 10000000, 100000000, 1000000000, 10000000000, 100000000000, 1000000000000, 10000000000000, 100000000000000, 1000000000000000, 10000000000000000, 100000000000000000, 1000000000000000000, 10000000000000000000] := by decide +kernel
  rw [hz]
  exact Lib.tabIs_of_head (n := 20) (e := 128) (by kernel_rfl) hT (by kernel_rfl) (by kernel_rfl) (by kernel_rfl) (by kernel_rfl) h2
theorem cfline_dom {W : World} (h : laidMetH Tryz.prog Rows.confLineUptoRow.laid W) (hsh : W.ShapedOpen Tryz.prog) : Dom W fun _ => False := by
  have ht := cfline_tab3 h
  have vlt : ∀ {n : String} {g : Nat} {cs : Array Value}, Tryz.prog.globalNamed n = some g → W.var? Tryz.prog n = some cs → g < W.heap.size := fun {n g cs} hg hv => by
    unfold World.var? at hv
    rw [hg] at hv
    rcases Nat.lt_or_ge g W.heap.size with q | q
    · exact q
    · simp [Array.getElem?_eq_none q] at hv
  have clt : ∀ {a : Addr} {v : Value}, W.cell? a = some v → a.block < W.heap.size := fun {a v} hv => by
    rcases Nat.lt_or_ge a.block W.heap.size with q | q
    · exact q
    · simp [World.cell?, Array.getElem?_eq_none q] at hv
  have h0 := cell_of_shapedOpen_int (P := Tryz.prog) (g := 0) (t := 3) (zero := #[.int .i64 0]) (k := .i64) hsh (of_decide_eq_true (by kernel_rfl)) (by kernel_rfl) rfl (by kernel_rfl) (by kernel_rfl) (by kernel_rfl)
  have g1 : laidMet Tryz.prog (Rows.confLineUptoRow.laid.drop 5) W := laidMet.tail (laidMet.tail (laidMet.tail (laidMet.tail (laidMet.tail (h)))))
  have h1 : ∃ t p, W.var? Tryz.prog "strconv.ErrSyntax" = some #[.iface t p] := by
    have st : "*" ++ "errors.errorString" = "*errors.errorString" := by decide
    have hr : ∀ u, Tryz.prog.typeName? 3 u = some "*errors.errorString" → u = 206 := fun u hu => typeName_ptr_named (nm := "errors.errorString") (by rw [st]; kernel_rfl) (by kernel_rfl) (by decide) u (by rw [st]; exact hu)
    obtain ⟨a, _, h1, _⟩ := laid_sentinel (g := 4) (ti := 86) (tp := 206) (te := 208) (ts := 9) (ms := #[("Error", 89)]) g1 (by kernel_rfl) (by kernel_rfl) Tryz.underlying86 hr Tryz.underlying206 Tryz.underlying208 rfl rfl (by kernel_rfl) (by kernel_rfl) (by kernel_rfl)
    exact ⟨_, _, h1⟩
  have g2 : laidMet Tryz.prog (Rows.confLineUptoRow.laid.drop 4) W := laidMet.tail (laidMet.tail (laidMet.tail (laidMet.tail (h))))
  have h2 : ∃ t p, W.var? Tryz.prog "strconv.ErrRange" = some #[.iface t p] := by
    have st : "*" ++ "errors.errorString" = "*errors.errorString" := by decide
    have hr : ∀ u, Tryz.prog.typeName? 3 u = some "*errors.errorString" → u = 206 := fun u hu => typeName_ptr_named (nm := "errors.errorString") (by rw [st]; kernel_rfl) (by kernel_rfl) (by decide) u (by rw [st]; exact hu)
    obtain ⟨a, _, h1, _⟩ := laid_sentinel (g := 5) (ti := 86) (tp := 206) (te := 208) (ts := 9) (ms := #[("Error", 89)]) g2 (by kernel_rfl) (by kernel_rfl) Tryz.underlying86 hr Tryz.underlying206 Tryz.underlying208 rfl rfl (by kernel_rfl) (by kernel_rfl) (by kernel_rfl)
    exact ⟨_, _, h1⟩
  have l3 : 3 < W.heap.size := by
    have hv := ht
    unfold Lib.TabIs World.var? at hv
    rw [show Tryz.prog.globalNamed "internal/strconv.uint64pow10" = some 3 by kernel_rfl] at hv
    rcases Nat.lt_or_ge 3 W.heap.size with q | q
    · exact q
    · simp [Array.getElem?_eq_none q] at hv
  have m0 : 0 < W.heap.size := clt h0.choose_spec
  have m1 : 4 < W.heap.size := (by obtain ⟨t, p, e⟩ := h1; exact vlt (g := 4) (by kernel_rfl) e)
  have m2 : 5 < W.heap.size := (by obtain ⟨t, p, e⟩ := h2; exact vlt (g := 5) (by kernel_rfl) e)
  refine ⟨fun _ h => h.elim, fun g hg => ⟨?_, fun h => h⟩, ht, h0, h1, h2⟩
  simp [Kd.tl, kdI] at hg
  rcases hg with rfl | rfl | rfl | rfl <;> assumption
def cfline_setC (cs : Array Value) : Obj → Obj
  | .cells _ t frozen => .cells cs t frozen
  | o => o
noncomputable def cfline_low : Nat := (World.holding Tryz.prog default ⟨#[], #[], []⟩).heap.size
noncomputable def cfline_laidWorld (os : Os) : World :=
  { World.holding Tryz.prog os ⟨#[.cells #[.string ⟨#[118, 97, 108, 117, 101, 32, 111, 117, 116, 32, 111, 102, 32, 114, 97, 110, 103, 101]⟩] 208, .cells #[.string ⟨#[105, 110, 118, 97, 108, 105, 100, 32, 115, 121, 110, 116, 97, 120]⟩] 208], #[], []⟩ with heap := ((((((((World.holding Tryz.prog os ⟨#[.cells #[.string ⟨#[118, 97, 108, 117, 101, 32, 111, 117, 116, 32, 111, 102, 32, 114, 97, 110, 103, 101]⟩] 208, .cells #[.string ⟨#[105, 110, 118, 97, 108, 105, 100, 32, 115, 121, 110, 116, 97, 120]⟩] 208], #[], []⟩).heap).modify 6 (cfline_setC #[.int .u8 0, .int .u8 1, .int .u8 28, .int .u8 2, .int .u8 29, .int .u8 14, .int .u8 24, .int .u8 3, .int .u8 30, .int .u8 22, .int .u8 20, .int .u8 15, .int .u8 25, .int .u8 17, .int .u8 4, .int .u8 8, .int .u8 31, .int .u8 27, .int .u8 13, .int .u8 23, .int .u8 21, .int .u8 19, .int .u8 16, .int .u8 7, .int .u8 26, .int .u8 12, .int .u8 18, .int .u8 6, .int .u8 11, .int .u8 5, .int .u8 10, .int .u8 9])).modify 7 (cfline_setC #[.int .u8 0, .int .u8 1, .int .u8 56, .int .u8 2, .int .u8 57, .int .u8 49, .int .u8 28, .int .u8 3, .int .u8 61, .int .u8 58, .int .u8 42, .int .u8 50, .int .u8 38, .int .u8 29, .int .u8 17, .int .u8 4, .int .u8 62, .int .u8 47, .int .u8 59, .int .u8 36, .int .u8 45, .int .u8 43, .int .u8 51, .int .u8 22, .int .u8 53, .int .u8 39, .int .u8 33, .int .u8 30, .int .u8 24, .int .u8 18, .int .u8 12, .int .u8 5, .int .u8 63, .int .u8 55, .int .u8 48, .int .u8 27, .int .u8 60, .int .u8 41, .int .u8 37, .int .u8 16, .int .u8 46, .int .u8 35, .int .u8 44, .int .u8 21, .int .u8 52, .int .u8 32, .int .u8 23, .int .u8 11, .int .u8 54, .int .u8 26, .int .u8 40, .int .u8 15, .int .u8 34, .int .u8 20, .int .u8 31, .int .u8 10, .int .u8 25, .int .u8 14, .int .u8 19, .int .u8 9, .int .u8 13, .int .u8 8, .int .u8 7, .int .u8 6])).modify 3 (cfline_setC #[.int .u64 1, .int .u64 10, .int .u64 100, .int .u64 1000, .int .u64 10000, .int .u64 100000, .int .u64 1000000, .int .u64 10000000, .int .u64 100000000, .int .u64 1000000000, .int .u64 10000000000, .int .u64 100000000000, .int .u64 1000000000000, .int .u64 10000000000000, .int .u64 100000000000000, .int .u64 1000000000000000, .int .u64 10000000000000000, .int .u64 100000000000000000, .int .u64 1000000000000000000, .int .u64 10000000000000000000])).modify 2 (cfline_setC #[.int .u8 128, .int .u8 191, .int .u8 160, .int .u8 191, .int .u8 128, .int .u8 159, .int .u8 144, .int .u8 191, .int .u8 128, .int .u8 143, .int .u8 0, .int .u8 0, .int .u8 0, .int .u8 0, .int .u8 0, .int .u8 0, .int .u8 0, .int .u8 0, .int .u8 0, .int .u8 0, .int .u8 0, .int .u8 0, .int .u8 0, .int .u8 0, .int .u8 0, .int .u8 0, .int .u8 0, .int .u8 0, .int .u8 0, .int .u8 0, .int .u8 0, .int .u8 0])).modify 5 (cfline_setC #[.iface 206 (.pointer (some ⟨cfline_low + 0, 0, none⟩))])).modify 4 (cfline_setC #[.iface 206 (.pointer (some ⟨cfline_low + 1, 0, none⟩))])).modify 1 (cfline_setC ((Go.Pinned.utf8FirstZ.map fun n : Nat => Value.int .u8 (n : Int)).toArray)) }
theorem cfline_laid_met (os : Os) : laidMet Tryz.prog Rows.confLineUptoRow.laid ((cfline_laidWorld os).forCall (fun _ _ => 0) ⟨#[], #[.string .empty, .string .empty], []⟩).memory :=
  laidMet_of_run' 8 (by kernel_rfl) (by kernel_rfl)
theorem cfline_reads (os : Os) {H : Type} (enc : TypeId × Value → H) : ∃ places, DataW.whole enc Tryz.prog ((cfline_laidWorld os).forCall (fun _ _ => 0) ⟨#[], #[.string .empty, .string .empty], []⟩).memory Tryz.f6.params.toList Rows.confLineSpec.vars false (#[.string .empty, .string .empty] : Array Value).toList 8 = some ([.lit (.string []), .lit (.string [])], [], places) :=
  ⟨[], by kernel_rfl⟩
theorem cfline_laidOut : laidOutB Tryz.prog = true := by kernel_rfl
theorem cfline_readOk {ts : Array TypeId} (h : ts.toList.all (fun t => Tryz.prog.readableRec t && decide (t < Tryz.prog.types.size)) = true) : ∀ t ∈ ts.toList, Tryz.prog.readableRec t = true ∧ t < Tryz.prog.types.size := fun t ht => by
  have := List.all_eq_true.1 h t ht
  simpa using this
mutual
theorem cfline_bD {H : Type} : ∀ d : DataW H, Rows.uptoBulk d = bulkD d
  | .lit l => by cases l <;> simp [Rows.uptoBulk, bulkD]
  | .nil => by simp [Rows.uptoBulk, bulkD]
  | .ptr d => by simp [Rows.uptoBulk, bulkD, cfline_bD d]
  | .slice a b => by simp [Rows.uptoBulk, bulkD, cfline_bL a, cfline_bL b]
  | .agg a => by simp [Rows.uptoBulk, bulkD, cfline_bL a]
  | .iface _ d => by simp [Rows.uptoBulk, bulkD, cfline_bD d]
  | .map e => by simp [Rows.uptoBulk, bulkD, cfline_bE e]
  | .held _ => by simp [Rows.uptoBulk, bulkD]
theorem cfline_bL {H : Type} : ∀ d : List (DataW H), Rows.uptoBulkAll d = bulkL d
  | [] => by simp [Rows.uptoBulkAll, bulkL]
  | d :: r => by simp [Rows.uptoBulkAll, bulkL, cfline_bD d, cfline_bL r]
theorem cfline_bE {H : Type} : ∀ d : List (Lit × DataW H), Rows.uptoBulkEntries d = bulkE d
  | [] => by simp [Rows.uptoBulkEntries, bulkE]
  | d :: r => by simp [Rows.uptoBulkEntries, bulkE, cfline_bX d, cfline_bE r]
theorem cfline_bX {H : Type} : ∀ d : Lit × DataW H, Rows.uptoBulkEntry d = bulkX d
  | (l, d) => by cases l <;> simp [Rows.uptoBulkEntry, bulkX, cfline_bD d]
end
set_option maxRecDepth 100000 in
theorem cfline_lifted (os : Os) (started : os.Started) (H : Type) (enc : TypeId × Value → H) (F : Stop.Interp) :
    ReturnsInHanded {} Tryz.checked os 6 .any ((Rows.OpenSpec.upto Rows.confLineSpec).preRow enc Tryz.prog Tryz.f6 Rows.confLineUptoRow.domain false Rows.confLineUptoRow.laid) (((Rows.OpenSpec.upto Rows.confLineSpec).at F).post enc Tryz.prog Tryz.f6 false true false false) := by
  obtain ⟨places, hx⟩ := cfline_reads os enc
  refine returnsInHanded_of_row (C := Tryz.checked) (s := Rows.OpenSpec.upto Rows.confLineSpec) cfline_own started (by kernel_rfl) Tryz.func6
    (witness_row_at (enc := enc) (C := Tryz.checked) false (cfline_laidWorld os) #[.string .empty, .string .empty] rfl (by kernel_rfl) (by kernel_rfl) (by kernel_rfl)
      (OpenSpec.preRow_of_cond 8 hx (by kernel_rfl) (fun k hk => by cases hk; kernel_rfl) (by kernel_rfl) (cfline_laid_met os))) ?_
  intro W base args ds gs before hval0 hW _ hk0 _ hL hsh9 _
  have hk := hk0 _ rfl
  show Calls Tryz.prog 6 args W fun e W' => ∃ v, e = .returned v ∧ Rows.confLineSpec.post enc Tryz.prog Tryz.f6 false true false false W args v W'
  have hval : ∀ (j : Nat) t v, Tryz.f6.params[j]? = some t → args[j]? = some v → Value.okWide Tryz.prog W .any base t v := hval0
  have hW' := hW
  have hlt := hW.lt
  obtain ⟨p, q, hA0, hV, rfl, hfz, hnd⟩ := hW
  have hA : DataW.TrodAll enc Tryz.prog W 0 (fun _ => true) true Tryz.f6.params.toList args.toList ds p := hA0
  have hA1 := hA
  rw [Tryz.params6] at hA hval
  obtain ⟨v0, vs0, d0, ds0, p0, q0, hargs, rfl, rfl, h0, r0⟩ := trodAll_cons hA
  obtain ⟨v1, vs1, d1, ds1, p1, q1, rfl, rfl, rfl, h1, r1⟩ := trodAll_cons r0
  obtain ⟨rfl, rfl, rfl⟩ := trodAll_nil r1
  obtain rfl : args = #[v0, v1] := by cases args; simp_all
  obtain ⟨rfl, rfl⟩ := trodVars_none hV
  obtain ⟨z0, rfl⟩ := okWide_string Tryz.underlying9 (hval 0 9 v0 rfl rfl)
  obtain ⟨y0, u0, b0, e0⟩ := arg_leaf (α := ByteArray) (opn_str Tryz.underlying9) rfl h0
  obtain ⟨z1, rfl⟩ := okWide_string Tryz.underlying9 (hval 1 9 v1 rfl rfl)
  obtain ⟨y1, u1, b1, e1⟩ := arg_leaf (α := ByteArray) (opn_str Tryz.underlying9) rfl h1
  have hB : Siz.bulk y0 + Siz.bulk y1 ≤ 1048576 := by
    have h := of_decide_eq_true hk
    rw [cfline_bL] at h
    simp only [List.append_nil, bulkL] at h
    omega
  have hR := repL_cons (M := fun _ => False) (β := fun _ => none) (cp := fun _ => 0) (.c e0) (repL_cons (M := fun _ => False) (β := fun _ => none) (cp := fun _ => 0) (.c e1) (repL_nil))
  refine (law_callsA (cfline_vc y0 y1 u0 u1 hB) hR (cfline_dom hL hsh9)).mono fun e W' ⟨he, bel⟩ => ?_
  subst he
  exact ⟨_, rfl, _, _, _, [], _, [], hW', trodAll_mk1 (shut_bool Tryz.underlying4 _), trodAll_below cfline_laidOut bel (cfline_readOk (by kernel_rfl)) (fun x hx => hlt x (List.mem_append_left _ hx)) hA1, rfl, bel.frame _, fun h => by cases h⟩
theorem cfline_bare : Rows.ConfLineUptoSaid :=
  OpenClaim.holds_of_cond 6 Tryz.f6 rfl rfl rfl rfl rfl rfl rfl ⟨rfl, rfl, rfl, rfl, rfl⟩ rfl rfl rfl rfl rfl (by kernel_rfl) Tryz.func6 (by kernel_rfl)
    (of_decide_eq_true (by kernel_rfl)) (by unfold Func.isWrapper; first | (rw [if_pos (by decide +kernel)]; kernel_rfl) | (rw [if_neg (by decide +kernel)]; exact ⟨rfl, rfl⟩))
    (fun os started H enc _ F => by rw [OpenClaim.pre_eq_preRow]; exact cfline_lifted os started H enc F)
theorem cfline_plain (f : FuncId) (fn : Func) (hf : Tryz.pinned.checked.prog.funcNamed "dutyroster/dutykeep.ConfLine" = some f) (hfn : Tryz.pinned.checked.prog.funcs[f]? = some fn) :
    true = Tryz.pinned.checked.prog.looks [] ∧ ∀ (j : Nat) t, fn.params[j]? = some t → Tryz.pinned.checked.prog.wantsStandIn t = false := by
  obtain rfl : f = 6 := Option.some.inj ((show Tryz.prog.funcNamed "dutyroster/dutykeep.ConfLine" = some 6 by kernel_rfl).symm.trans hf) |>.symm
  obtain rfl : fn = Tryz.f6 := (Option.some.inj (Tryz.func6.symm.trans hfn)).symm
  refine ⟨by kernel_rfl, fun j t ht => ?_⟩
  rw [Tryz.params6] at ht
  have hm := Array.mem_of_getElem? ht
  simp at hm
  subst hm
  all_goals (show Tryz.prog.wantsStandIn _ = false; kernel_rfl)
set_option maxRecDepth 100000 in
theorem ConfLine_proved : Rows.ConfLineUptoCardSaid :=
  Claim7.holds_tied_plain_at .later [] _ _ _ _ cfline_bare (fun _ h => by cases h) (by kernel_rfl) (fun _ h => by cases h) confLineUpto_row_tie rfl ⟨rfl, rfl⟩ (by kernel_rfl) rfl cfline_plain (by kernel_rfl)
end

end Go.Proofs.YtnjngpjkhddnfaaGreatDoor
