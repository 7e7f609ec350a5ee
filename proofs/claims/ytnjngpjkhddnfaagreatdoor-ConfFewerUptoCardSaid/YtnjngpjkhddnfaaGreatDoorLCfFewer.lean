/- With jobs less, or wants of others less, what fitted fits still; for all inputs. -/
import Derived.Test.YtnjngpjkhddnfaaGreatDoorDelV
import Derived.Test.YtnjngpjkhddnfaaGreatDoorConfL
import Derived.Test.YtnjngpjkhddnfaaGreatDoorCards
import Derived.Test.YtnjngpjkhddnfaaGreatDoorTie
import Derived.Deep.DeepHandedRow
import Derived.Stop.LaidErr
import Derived.Shelf.Vars
set_option linter.all false
namespace Go.Proofs.YtnjngpjkhddnfaaGreatDoor
open Go Go.Abs

attribute [local irreducible] judgeV
def clJob_R (r : Th ((List PlanJob))) : AV := .own 0 fun _ => (r ()).length
def clJob_H (r : Th ((List PlanJob))) : Hp := [vecO 33 fun _ => (r ())]
def clJob_P (l : (List PlanJob)) : Prop := l.length ≤ 1099511627776
def clJob_C : PC := fun A K => match A with
 | [l] => Ob (fun _ => Leaf.ok (List PlanJob) l ∧ clJob_P (Leaf.val l)) (Gen (α := (List PlanJob)) (fun _ => (Leaf.val l)) fun r => K (clJob_R fun _ => r) (clJob_H fun _ => r))
 | _ => Bad 1002
set_option maxRecDepth 100000 in
set_option maxHeartbeats 4000000 in
theorem clJob_vc (l : (List PlanJob)) (hp : clJob_P l) : FnOk Tryz.prog 8 [Leaf.av fun _ => l] [] (outA (clJob_R fun _ => l) (clJob_H fun _ => l)) := by
 refine fn_ok envOk zl noCon_ok noDraws_ok (keep := [0, 2, 4]) Tryz.func8 rfl ?_
 have hp' : l.length ≤ 1099511627776 := hp
 cbv
 repeat' first | (refine Stp.mk ?_; cbv) | (refine Gen.mk fun r hr => ?_; (try simp only [Dat.ok, Dat.dec, Leaf.ok, Leaf.val, Z0, Z1, Z2, Z3, Z4, Z5, Z6, Z7, val_sl, val_nil] at hr); cbv) | exact trivial | rfl | refine Both.mk ?_ ?_ | (refine Imp.mk fun h => ?_; (try dsimp only at h); (try simp only [nc, Int.toNat_natCast, ne_eq, zz] at h); (try simp only [nc] at h)) | refine Ob.mk ?_ ?_ | refine Chk.mk (by kernel_rfl) ?_ | refine Eq'.mk ?_ | (refine AllN.mk fun i hi => ?_; cbv) | (refine AllC.mk fun c hc hcm => ?_; (try dsimp only at hc); cbv) | (refine AllS.mk fun r hr => ?_; (try simp only [Dat.ok, Dat.dec, Leaf.ok, Leaf.val, Z0, Z1, Z2, Z3, Z4, Z5, Z6, Z7, val_sl] at hr); cbv)
 all_goals ((try dsimp only at *); (try simp only [nc, Int.toNat_natCast, ne_eq, zz] at *); (try simp only [nc] at *))
 all_goals first
   | omega
   | (exact ⟨Nat.le_refl _, trivial, by omega, by omega⟩)
   | (simp only [Nat.zero_add, Nat.sub_zero, Nat.not_lt_zero, decide_false, cond_false]; done)
   | (simp_all; done)
   | fail
theorem clJob_ok : PcOk Tryz.prog 8 (clJob_C) := fun A K h => by
 unfold clJob_C at h
 split at h
 · rename_i l
   cases h with
   | mk h1 h2 =>
     obtain ⟨g0, hp⟩ := h1
     refine FnOk.pre ?_ (A' := [Leaf.av fun _ => (Leaf.val l : (List PlanJob))]) (.mk (Leaf.hle _ g0) (trivial))
     exact FnOk.out (K := fun r H _ => K r H) (clJob_vc (Leaf.val l) hp) rfl h2.out
 · cases h
noncomputable def cFw : FuncId → Con := fun f => match f with
 | 9 => pureCon judge_C
 | 10 => pureCon (detPC clives_D)
 | 7 => pureCon clWant_C
 | 13 => delV_K
 | 8 => pureCon clJob_C
 | 15 => dlJob_K
 | _ => fun _ _ _ => Bad 1001
theorem cFw_ok : ConOk Tryz.prog cFw := fun f A H K h => by
 unfold cFw at h
 split at h
 · exact ⟨⟨Tryz.f9, Tryz.func9, by kernel_rfl, by kernel_rfl⟩, pureCon_ok judge_ok h⟩
 · exact ⟨⟨Tryz.f10, Tryz.func10, by kernel_rfl, by kernel_rfl⟩, pureCon_ok clives_ok h⟩
 · exact ⟨⟨Tryz.f7, Tryz.func7, by kernel_rfl, by kernel_rfl⟩, pureCon_ok clWant_ok h⟩
 · exact ⟨⟨Tryz.f13, Tryz.func13, by kernel_rfl, by kernel_rfl⟩, delV_ok h⟩
 · exact ⟨⟨Tryz.f8, Tryz.func8, by kernel_rfl, by kernel_rfl⟩, pureCon_ok clJob_ok h⟩
 · exact ⟨⟨Tryz.f15, Tryz.func15, by kernel_rfl, by kernel_rfl⟩, dlJob_ok h⟩
 · cases h
def dFw : FuncId → Option Dt := fun f => match f with
 | 10 => some (.c clives_D)
 | _ => none
theorem dFw_ok : DetOk Tryz.prog dFw := fun f d h => by
 unfold dFw at h
 split at h
 · cases h; exact ⟨⟨Tryz.f10, Tryz.func10, by kernel_rfl, by kernel_rfl⟩, clives_ok⟩
 · cases h
theorem plan_bulk {p : Plan} (h : Siz.bulk p ≤ 1048576) : p.wants.length ≤ 1048576 ∧ p.jobs.length ≤ 1048576 := by
 have h1 := bulk_len Want.one_le p.wants
 have h2 := bulk_len PlanJob.one_le p.jobs
 have e : Siz.bulk p = 1 + ((p.wants.map Siz.bulk).sum + 1) + ((p.jobs.map Siz.bulk).sum + 1) + 1 := rfl
 omega
theorem del_val (l : List PlanJob) (k : Int) : slV (α := PlanJob) (.sl 4 (fun _ => dlJob_N l k (k + 1)) fun i => Dat.enc fun _ => (dlJob_F l k (k + 1)).getD (i ()) Dat.d0) = delU l k.toNat (k + 1).toNat :=
 (val_take (delU l k.toNat (k + 1).toNat) 4 (delU l k.toNat (k + 1).toNat).length (Nat.le_refl _)).trans List.take_length
theorem del_to {k : Int} (h : 0 ≤ k) : (k + 1).toNat = k.toNat + 1 := by omega
set_option maxRecDepth 100000 in
set_option maxHeartbeats 4000000 in
theorem cffew_vc (p : Plan) (owner : Int) (k : Int) (fit_p : Siz.fit p) (fit_owner : Siz.fit owner) (fit_k : Siz.fit k) (hB : Siz.bulk p + Siz.bulk owner + Siz.bulk k ≤ 1048576) : FnOk Tryz.prog 4 [.agg (Dat.enc fun _ => p), .i .i64 fun _ => owner, .i .i64 fun _ => k] [] (outA (.bc true) []) := by
 refine fn_ok envOk zl cFw_ok (draws_ok envOk zl dFw_ok mixed) (keep := [0, 1, 2, 3, 4, 6, 8, 9, 10, 12, 13, 15, 16, 45, 75, 84]) Tryz.func4 rfl ?_
 have fin := @fin_b
 have finc := @fin_t
 generalize outA (.bc true) [] = K at fin finc
 cbv
 repeat' first | (show Stp _; exfalso; first | omega | (exact h ‹_›) | (exact absurd ‹_› h) | (exact Bool.false_ne_true (h.symm.trans (show _ = true by assumption)))) | (refine Stp.mk ?_; cbv) | (refine Gen.mk fun r hr => ?_; (try simp only [Dat.ok, Dat.dec, Leaf.ok, Leaf.val, Z0, Z1, Z2, Z3, Z4, Z5, Z6, Z7, val_sl, val_nil] at hr); cbv) | exact trivial | rfl | refine Both.mk ?_ ?_ | (refine Imp.mk fun h => ?_; (try dsimp only at h); (try simp only [nc, Int.toNat_natCast, ne_eq, zz] at h); (try simp only [nc] at h)) | refine Ob.mk ?_ ?_ | refine Chk.mk (by kernel_rfl) ?_ | refine Eq'.mk ?_ | (refine AllN.mk fun i hi => ?_; cbv) | (refine AllC.mk fun c hc hcm => ?_; (try dsimp only at hc); cbv) | (refine AllS.mk fun r hr => ?_; (try simp only [Dat.ok, Dat.dec, Leaf.ok, Leaf.val, Z0, Z1, Z2, Z3, Z4, Z5, Z6, Z7, val_sl] at hr); cbv)
 all_goals ((try dsimp only at *); (try simp only [nc, Int.toNat_natCast, ne_eq, zz] at *); (try simp only [nc] at *))
 all_goals try simp only [Dat.dec, Leaf.val, Z0, Z1, Z2, Z3, Z4, Z5, Z6, Z7, val_sl] at *
 all_goals try subst_vars
 all_goals have pl := plan_bulk (p := p) (by omega)
 all_goals try first
   | (refine ⟨⟨trivial, ⟨rfl, fun i _ => Dat.hok _⟩, rfl, fun i _ => Dat.hok _⟩, (?_ : p.wants.length ≤ 9223372036854775807 ∧ p.jobs.length ≤ 9223372036854775807)⟩
      exact ⟨by omega, by omega⟩)
   | exact finc
   | exact ⟨by omega, by omega⟩
   | omega
   | exact ⟨⟨rfl, fun i _ => Dat.hok _⟩, Nat.le_trans pl.1 (by decide)⟩
 all_goals have jl := judge_len (p := p) (by assumption)
 all_goals have fw : FwOk p ⟨p.frame, p.wants.filter (kpB owner), p.jobs⟩ owner := fewer_wants (p := p) (o := owner) (by assumption) ⟨by omega, by omega⟩ (by assumption)
 all_goals have fj := fun h => fewer_jobs (p := p) (o := owner) (k := k.toNat) (by assumption) ⟨by omega, by omega⟩ (by assumption) h
 refine DelVC.mk owner p.wants (by omega) rfl ?_ ?_ ?_
 iterate 2
   · cbv
     repeat' first | (refine Stp.mk ?_; cbv) | (refine Gen.mk fun r hr => ?_; (try simp only [Dat.ok, Dat.dec, Leaf.ok, Leaf.val, Z0, Z1, Z2, Z3, Z4, Z5, Z6, Z7, val_sl, val_nil] at hr); cbv) | exact trivial | rfl | refine Both.mk ?_ ?_ | (refine Imp.mk fun h => ?_; (try dsimp only at h); (try simp only [nc, Int.toNat_natCast, ne_eq, zz] at h); (try simp only [nc] at h)) | refine Ob.mk ?_ ?_ | refine Chk.mk (by kernel_rfl) ?_ | refine Eq'.mk ?_ | (refine AllN.mk fun i hi => ?_; cbv) | (refine AllC.mk fun c hc hcm => ?_; (try dsimp only at hc); cbv) | (refine AllS.mk fun r hr => ?_; (try simp only [Dat.ok, Dat.dec, Leaf.ok, Leaf.val, Z0, Z1, Z2, Z3, Z4, Z5, Z6, Z7, val_sl] at hr); cbv)
 cbv
 repeat' first | (show Stp _; exfalso; first | omega | (exact h ‹_›) | (exact absurd ‹_› h) | (exact Bool.false_ne_true (h.symm.trans (show _ = true by assumption)))) | (refine Stp.mk ?_; cbv) | (refine Gen.mk fun r hr => ?_; (try simp only [Dat.ok, Dat.dec, Leaf.ok, Leaf.val, Z0, Z1, Z2, Z3, Z4, Z5, Z6, Z7, val_sl, val_nil] at hr); cbv) | exact trivial | rfl | refine Both.mk ?_ ?_ | (refine Imp.mk fun h => ?_; (try dsimp only at h); (try simp only [nc, Int.toNat_natCast, ne_eq, zz] at h); (try simp only [nc] at h)) | refine Ob.mk ?_ ?_ | refine Chk.mk (by kernel_rfl) ?_ | refine Eq'.mk ?_ | (refine AllN.mk fun i hi => ?_; cbv) | (refine AllC.mk fun c hc hcm => ?_; (try dsimp only at hc); cbv) | (refine AllS.mk fun r hr => ?_; (try simp only [Dat.ok, Dat.dec, Leaf.ok, Leaf.val, Z0, Z1, Z2, Z3, Z4, Z5, Z6, Z7, val_sl] at hr); cbv)
 all_goals ((try dsimp only at *); (try simp only [nc, Int.toNat_natCast, ne_eq, zz] at *); (try simp only [nc] at *))
 all_goals try simp only [Dat.dec, Leaf.val, Z0, Z1, Z2, Z3, Z4, Z5, Z6, Z7, val_sl] at *
 all_goals try subst_vars
 all_goals have kl : (p.wants.filter (kpB owner)).length ≤ p.wants.length := List.length_filter_le ..
 all_goals have dl := del_val p.jobs k
 all_goals try simp only [dl] at *
 all_goals obtain ⟨f1, f2, f3⟩ := fw
 all_goals generalize hq1 : judgeV ⟨p.frame, p.wants.filter (kpB owner), p.jobs⟩ = q1 at *
 all_goals try have g9 := fj (by omega)
 all_goals try rw [← del_to (show 0 ≤ k by omega)] at g9
 all_goals try obtain ⟨g1, g2, g3⟩ := g9
 all_goals have dn : (delU p.jobs k.toNat (k + 1).toNat).length ≤ p.jobs.length + p.jobs.length := by unfold delU; rw [List.length_append, List.length_take, List.length_drop]; omega
 all_goals generalize hq2 : judgeV ⟨p.frame, p.wants, delU p.jobs k.toNat (k + 1).toNat⟩ = q2 at *
 all_goals first
   | exact Nat.le_refl _
   | (refine ⟨⟨trivial, ⟨rfl, fun i _ => Dat.hok _⟩, rfl, fun i _ => Dat.hok _⟩, (?_ : (p.wants.filter (kpB owner)).length ≤ 9223372036854775807 ∧ p.jobs.length ≤ 9223372036854775807)⟩
      exact ⟨by omega, by omega⟩)
   | (refine ⟨⟨trivial, ⟨rfl, fun i _ => Dat.hok _⟩, rfl, fun i _ => Dat.hok _⟩, (?_ : p.wants.length ≤ 9223372036854775807 ∧ (delU p.jobs k.toNat (k + 1).toNat).length ≤ 9223372036854775807)⟩
      exact ⟨by omega, by omega⟩)
   | exact finc
   | exact ⟨by omega, by omega⟩
   | omega
   | (unfold InR; omega)
   | exact ⟨⟨rfl, fun i _ => Dat.hok _⟩, Nat.le_trans pl.2 (by decide)⟩
   | (refine ⟨rfl, trivial, fun i _ => Dat.hok _, (?_ : 0 ≤ k ∧ k ≤ k + 1 ∧ k + 1 ≤ (p.jobs.length : Int) ∧ 0 < p.jobs.length ∧ p.jobs.length ≤ 4611686018427387903)⟩
      exact ⟨by omega, by omega, by omega, by omega, by omega⟩)
   | exact fin g3
   | (exfalso; exact absurd f1 (by assumption))
   | (exfalso; exact absurd g1 (by assumption))
   | (exfalso; omega)
   | (exfalso; exact Bool.noConfusion ((show q1.2.1.getD owner.toNat Dat.d0 = false by assumption).symm.trans f3))
   | fail
section
open Go.ChangeShapes Go.WideShapes Go.ChangeAt Go.RowKit Go.Joins Go.Deep
set_option linter.unusedVariables false
theorem cffew_own : ownKnob Tryz.prog.godebug = none := by kernel_rfl
theorem cffew_tab3 {W : World} (h : laidMetH Tryz.prog Rows.confFewerUptoRow.laid W) : Lib.TabIs Tryz.prog W "internal/strconv.uint64pow10" .u64 Lib.pow10Tab := by
 have h2 : laidMet Tryz.prog (Rows.confFewerUptoRow.laid.drop 2) W := laidMet.tail (laidMet.tail (h))
 have hT : (Tryz.prog.globals[3]?).map (·.type) = some 198 := by kernel_rfl
 have hz : Lib.pow10Tab = [1, 10, 100, 1000, 10000, 100000, 1000000, 10000000, 100000000, 1000000000, 10000000000, 100000000000, 1000000000000, 10000000000000, 100000000000000, 1000000000000000, 10000000000000000, 100000000000000000, 1000000000000000000, 10000000000000000000] := by decide +kernel
 rw [hz]
 exact Lib.tabIs_of_head (n := 20) (e := 128) (by kernel_rfl) hT (by kernel_rfl) (by kernel_rfl) (by kernel_rfl) (by kernel_rfl) h2
theorem cffew_dom {W : World} (h : laidMetH Tryz.prog Rows.confFewerUptoRow.laid W) (hsh : W.ShapedOpen Tryz.prog) : Dom W fun _ => False := by
 have ht := cffew_tab3 h
 have vlt : ∀ {n : String} {g : Nat} {cs : Array Value}, Tryz.prog.globalNamed n = some g → W.var? Tryz.prog n = some cs → g < W.heap.size := fun {n g cs} hg hv => by
   unfold World.var? at hv
   rw [hg] at hv
   rcases Nat.lt_or_ge g W.heap.size with q | q
   · exact q
   · simp [Array.getElem?_eq_none q] at hv
 have clt : ∀ {a : Addr} {v : Value}, W.cell? a = some v → a.block < W.heap.size := fun {a v} hv => by
   rcases Nat.lt_or_ge a.block W.heap.size with q | q
   · exact q
   · simp [World.cell?, Array.getElem?_eq_none q] at hv
 have h0 := cell_of_shapedOpen_int (P := Tryz.prog) (g := 0) (t := 3) (zero := #[.int .i64 0]) (k := .i64) hsh (of_decide_eq_true (by kernel_rfl)) (by kernel_rfl) rfl (by kernel_rfl) (by kernel_rfl) (by kernel_rfl)
 have g1 : laidMet Tryz.prog (Rows.confFewerUptoRow.laid.drop 5) W := laidMet.tail (laidMet.tail (laidMet.tail (laidMet.tail (laidMet.tail (h)))))
 have h1 : ∃ t p, W.var? Tryz.prog "strconv.ErrSyntax" = some #[.iface t p] := by
   have st : "*" ++ "errors.errorString" = "*errors.errorString" := by decide
   have hr : ∀ u, Tryz.prog.typeName? 3 u = some "*errors.errorString" → u = 206 := fun u hu => typeName_ptr_named (nm := "errors.errorString") (by rw [st]; kernel_rfl) (by kernel_rfl) (by decide) u (by rw [st]; exact hu)
   obtain ⟨a, _, h1, _⟩ := laid_sentinel (g := 4) (ti := 86) (tp := 206) (te := 208) (ts := 9) (ms := #[("Error", 89)]) g1 (by kernel_rfl) (by kernel_rfl) Tryz.underlying86 hr Tryz.underlying206 Tryz.underlying208 rfl rfl (by kernel_rfl) (by kernel_rfl) (by kernel_rfl)
   exact ⟨_, _, h1⟩
 have g2 : laidMet Tryz.prog (Rows.confFewerUptoRow.laid.drop 4) W := laidMet.tail (laidMet.tail (laidMet.tail (laidMet.tail (h))))
 have h2 : ∃ t p, W.var? Tryz.prog "strconv.ErrRange" = some #[.iface t p] := by
   have st : "*" ++ "errors.errorString" = "*errors.errorString" := by decide
   have hr : ∀ u, Tryz.prog.typeName? 3 u = some "*errors.errorString" → u = 206 := fun u hu => typeName_ptr_named (nm := "errors.errorString") (by rw [st]; kernel_rfl) (by kernel_rfl) (by decide) u (by rw [st]; exact hu)
   obtain ⟨a, _, h1, _⟩ := laid_sentinel (g := 5) (ti := 86) (tp := 206) (te := 208) (ts := 9) (ms := #[("Error", 89)]) g2 (by kernel_rfl) (by kernel_rfl) Tryz.underlying86 hr Tryz.underlying206 Tryz.underlying208 rfl rfl (by kernel_rfl) (by kernel_rfl) (by kernel_rfl)
   exact ⟨_, _, h1⟩
 have l3 : 3 < W.heap.size := by
   have hv := ht
   unfold Lib.TabIs World.var? at hv
   rw [show Tryz.prog.globalNamed "internal/strconv.uint64pow10" = some 3 by kernel_rfl] at hv
   rcases Nat.lt_or_ge 3 W.heap.size with q | q
   · exact q
   · simp [Array.getElem?_eq_none q] at hv
 have m0 : 0 < W.heap.size := clt h0.choose_spec
 have m1 : 4 < W.heap.size := (by obtain ⟨t, p, e⟩ := h1; exact vlt (g := 4) (by kernel_rfl) e)
 have m2 : 5 < W.heap.size := (by obtain ⟨t, p, e⟩ := h2; exact vlt (g := 5) (by kernel_rfl) e)
 refine ⟨fun _ h => h.elim, fun g hg => ⟨?_, fun h => h⟩, ht, h0, h1, h2⟩
 simp [Kd.tl, kdI] at hg
 rcases hg with rfl | rfl | rfl | rfl <;> assumption
def cffew_setC (cs : Array Value) : Obj → Obj
 | .cells _ t frozen => .cells cs t frozen
 | o => o
noncomputable def cffew_low : Nat := (World.holding Tryz.prog default ⟨#[], #[], []⟩).heap.size
noncomputable def cffew_laidWorld (os : Os) : World :=
 { World.holding Tryz.prog os ⟨#[.cells #[.string ⟨#[118, 97, 108, 117, 101, 32, 111, 117, 116, 32, 111, 102, 32, 114, 97, 110, 103, 101]⟩] 208, .cells #[.string ⟨#[105, 110, 118, 97, 108, 105, 100, 32, 115, 121, 110, 116, 97, 120]⟩] 208], #[], []⟩ with heap := ((((((((World.holding Tryz.prog os ⟨#[.cells #[.string ⟨#[118, 97, 108, 117, 101, 32, 111, 117, 116, 32, 111, 102, 32, 114, 97, 110, 103, 101]⟩] 208, .cells #[.string ⟨#[105, 110, 118, 97, 108, 105, 100, 32, 115, 121, 110, 116, 97, 120]⟩] 208], #[], []⟩).heap).modify 6 (cffew_setC #[.int .u8 0, .int .u8 1, .int .u8 28, .int .u8 2, .int .u8 29, .int .u8 14, .int .u8 24, .int .u8 3, .int .u8 30, .int .u8 22, .int .u8 20, .int .u8 15, .int .u8 25, .int .u8 17, .int .u8 4, .int .u8 8, .int .u8 31, .int .u8 27, .int .u8 13, .int .u8 23, .int .u8 21, .int .u8 19, .int .u8 16, .int .u8 7, .int .u8 26, .int .u8 12, .int .u8 18, .int .u8 6, .int .u8 11, .int .u8 5, .int .u8 10, .int .u8 9])).modify 7 (cffew_setC #[.int .u8 0, .int .u8 1, .int .u8 56, .int .u8 2, .int .u8 57, .int .u8 49, .int .u8 28, .int .u8 3, .int .u8 61, .int .u8 58, .int .u8 42, .int .u8 50, .int .u8 38, .int .u8 29, .int .u8 17, .int .u8 4, .int .u8 62, .int .u8 47, .int .u8 59, .int .u8 36, .int .u8 45, .int .u8 43, .int .u8 51, .int .u8 22, .int .u8 53, .int .u8 39, .int .u8 33, .int .u8 30, .int .u8 24, .int .u8 18, .int .u8 12, .int .u8 5, .int .u8 63, .int .u8 55, .int .u8 48, .int .u8 27, .int .u8 60, .int .u8 41, .int .u8 37, .int .u8 16, .int .u8 46, .int .u8 35, .int .u8 44, .int .u8 21, .int .u8 52, .int .u8 32, .int .u8 23, .int .u8 11, .int .u8 54, .int .u8 26, .int .u8 40, .int .u8 15, .int .u8 34, .int .u8 20, .int .u8 31, .int .u8 10, .int .u8 25, .int .u8 14, .int .u8 19, .int .u8 9, .int .u8 13, .int .u8 8, .int .u8 7, .int .u8 6])).modify 3 (cffew_setC #[.int .u64 1, .int .u64 10, .int .u64 100, .int .u64 1000, .int .u64 10000, .int .u64 100000, .int .u64 1000000, .int .u64 10000000, .int .u64 100000000, .int .u64 1000000000, .int .u64 10000000000, .int .u64 100000000000, .int .u64 1000000000000, .int .u64 10000000000000, .int .u64 100000000000000, .int .u64 1000000000000000, .int .u64 10000000000000000, .int .u64 100000000000000000, .int .u64 1000000000000000000, .int .u64 10000000000000000000])).modify 2 (cffew_setC #[.int .u8 128, .int .u8 191, .int .u8 160, .int .u8 191, .int .u8 128, .int .u8 159, .int .u8 144, .int .u8 191, .int .u8 128, .int .u8 143, .int .u8 0, .int .u8 0, .int .u8 0, .int .u8 0, .int .u8 0, .int .u8 0, .int .u8 0, .int .u8 0, .int .u8 0, .int .u8 0, .int .u8 0, .int .u8 0, .int .u8 0, .int .u8 0, .int .u8 0, .int .u8 0, .int .u8 0, .int .u8 0, .int .u8 0, .int .u8 0, .int .u8 0, .int .u8 0])).modify 5 (cffew_setC #[.iface 206 (.pointer (some ⟨cffew_low + 0, 0, none⟩))])).modify 4 (cffew_setC #[.iface 206 (.pointer (some ⟨cffew_low + 1, 0, none⟩))])).modify 1 (cffew_setC ((Go.Pinned.utf8FirstZ.map fun n : Nat => Value.int .u8 (n : Int)).toArray)) }
theorem cffew_laid_met (os : Os) : laidMet Tryz.prog Rows.confFewerUptoRow.laid ((cffew_laidWorld os).forCall (fun _ _ => 0) ⟨#[], #[.agg #[.int .i64 0, .slice none 0 0, .slice none 0 0], .int .i64 0, .int .i64 0], []⟩).memory :=
 laidMet_of_run' 8 (by kernel_rfl) (by kernel_rfl)
theorem cffew_reads (os : Os) {H : Type} (enc : TypeId × Value → H) : ∃ places, DataW.whole enc Tryz.prog ((cffew_laidWorld os).forCall (fun _ _ => 0) ⟨#[], #[.agg #[.int .i64 0, .slice none 0 0, .slice none 0 0], .int .i64 0, .int .i64 0], []⟩).memory Tryz.f4.params.toList Rows.confFewerSpec.vars false (#[.agg #[.int .i64 0, .slice none 0 0, .slice none 0 0], .int .i64 0, .int .i64 0] : Array Value).toList 8 = some ([.agg [.lit (.int .i64 0), .nil, .nil], .lit (.int .i64 0), .lit (.int .i64 0)], [], places) :=
 ⟨[], by kernel_rfl⟩
theorem cffew_laidOut : laidOutB Tryz.prog = true := by kernel_rfl
theorem cffew_readOk {ts : Array TypeId} (h : ts.toList.all (fun t => Tryz.prog.readableRec t && decide (t < Tryz.prog.types.size)) = true) : ∀ t ∈ ts.toList, Tryz.prog.readableRec t = true ∧ t < Tryz.prog.types.size := fun t ht => by
 have := List.all_eq_true.1 h t ht
 simpa using this
mutual
theorem cffew_bD {H : Type} : ∀ d : DataW H, Rows.uptoBulk d = bulkD d
 | .lit l => by cases l <;> simp [Rows.uptoBulk, bulkD]
 | .nil => by simp [Rows.uptoBulk, bulkD]
 | .ptr d => by simp [Rows.uptoBulk, bulkD, cffew_bD d]
 | .slice a b => by simp [Rows.uptoBulk, bulkD, cffew_bL a, cffew_bL b]
 | .agg a => by simp [Rows.uptoBulk, bulkD, cffew_bL a]
 | .iface _ d => by simp [Rows.uptoBulk, bulkD, cffew_bD d]
 | .map e => by simp [Rows.uptoBulk, bulkD, cffew_bE e]
 | .held _ => by simp [Rows.uptoBulk, bulkD]
theorem cffew_bL {H : Type} : ∀ d : List (DataW H), Rows.uptoBulkAll d = bulkL d
 | [] => by simp [Rows.uptoBulkAll, bulkL]
 | d :: r => by simp [Rows.uptoBulkAll, bulkL, cffew_bD d, cffew_bL r]
theorem cffew_bE {H : Type} : ∀ d : List (Lit × DataW H), Rows.uptoBulkEntries d = bulkE d
 | [] => by simp [Rows.uptoBulkEntries, bulkE]
 | d :: r => by simp [Rows.uptoBulkEntries, bulkE, cffew_bX d, cffew_bE r]
theorem cffew_bX {H : Type} : ∀ d : Lit × DataW H, Rows.uptoBulkEntry d = bulkX d
 | (l, d) => by cases l <;> simp [Rows.uptoBulkEntry, bulkX, cffew_bD d]
end
set_option maxRecDepth 100000 in
theorem cffew_lifted (os : Os) (started : os.Started) (H : Type) (enc : TypeId × Value → H) (F : Stop.Interp) :
   ReturnsInHanded {} Tryz.checked os 4 .any ((Rows.OpenSpec.upto Rows.confFewerSpec).preRow enc Tryz.prog Tryz.f4 Rows.confFewerUptoRow.domain false Rows.confFewerUptoRow.laid) (((Rows.OpenSpec.upto Rows.confFewerSpec).at F).post enc Tryz.prog Tryz.f4 false true false false) := by
 obtain ⟨places, hx⟩ := cffew_reads os enc
 refine returnsInHanded_of_row (C := Tryz.checked) (s := Rows.OpenSpec.upto Rows.confFewerSpec) cffew_own started (by kernel_rfl) Tryz.func4
   (witness_row_at (enc := enc) (C := Tryz.checked) false (cffew_laidWorld os) #[.agg #[.int .i64 0, .slice none 0 0, .slice none 0 0], .int .i64 0, .int .i64 0] rfl (by kernel_rfl) (by kernel_rfl) (by kernel_rfl)
     (OpenSpec.preRow_of_cond 8 hx (by kernel_rfl) (fun k hk => by cases hk; kernel_rfl) (by kernel_rfl) (cffew_laid_met os))) ?_
 intro W base args ds gs before hval0 hW _ hk0 _ hL hsh9 _
 have hk := hk0 _ rfl
 show Calls Tryz.prog 4 args W fun e W' => ∃ v, e = .returned v ∧ Rows.confFewerSpec.post enc Tryz.prog Tryz.f4 false true false false W args v W'
 have hval : ∀ (j : Nat) t v, Tryz.f4.params[j]? = some t → args[j]? = some v → Value.okWide Tryz.prog W .any base t v := hval0
 have hW' := hW
 have hlt := hW.lt
 obtain ⟨p, q, hA0, hV, rfl, hfz, hnd⟩ := hW
 have hA : DataW.TrodAll enc Tryz.prog W 0 (fun _ => true) true Tryz.f4.params.toList args.toList ds p := hA0
 have hA1 := hA
 rw [Tryz.params4] at hA hval
 obtain ⟨v0, vs0, d0, ds0, p0, q0, hargs, rfl, rfl, h0, r0⟩ := trodAll_cons hA
 obtain ⟨v1, vs1, d1, ds1, p1, q1, rfl, rfl, rfl, h1, r1⟩ := trodAll_cons r0
 obtain ⟨v2, vs2, d2, ds2, p2, q2, rfl, rfl, rfl, h2, r2⟩ := trodAll_cons r1
 obtain ⟨rfl, rfl, rfl⟩ := trodAll_nil r2
 obtain rfl : args = #[v0, v1, v2] := by cases args; simp_all
 obtain ⟨rfl, rfl⟩ := trodVars_none hV
 obtain ⟨cs0, rfl, _⟩ := okWide_struct Tryz.underlying25 (hval 0 25 v0 rfl rfl)
 obtain ⟨y0, u0, b0, e0⟩ := arg_agg (α := Plan) opn_Plan h0
 obtain ⟨z1, rfl⟩ := okWide_int Tryz.underlying3 (hval 1 3 v1 rfl rfl)
 obtain ⟨y1, u1, b1, e1⟩ := arg_leaf (α := Int) (opn_int Tryz.underlying3) rfl h1
 obtain ⟨z2, rfl⟩ := okWide_int Tryz.underlying3 (hval 2 3 v2 rfl rfl)
 obtain ⟨y2, u2, b2, e2⟩ := arg_leaf (α := Int) (opn_int Tryz.underlying3) rfl h2
 have hB : Siz.bulk y0 + Siz.bulk y1 + Siz.bulk y2 ≤ 1048576 := by
   have h := of_decide_eq_true hk
   rw [cffew_bL] at h
   simp only [List.append_nil, bulkL] at h
   omega
 have hR := repL_cons (M := fun _ => False) (β := fun _ => none) (cp := fun _ => 0) (.c e0) (repL_cons (M := fun _ => False) (β := fun _ => none) (cp := fun _ => 0) (.c e1) (repL_cons (M := fun _ => False) (β := fun _ => none) (cp := fun _ => 0) (.c e2) (repL_nil)))
 refine (law_callsA (cffew_vc y0 y1 y2 u0 u1 u2 hB) hR (cffew_dom hL hsh9)).mono fun e W' ⟨he, bel⟩ => ?_
 subst he
 exact ⟨_, rfl, _, _, _, [], _, [], hW', trodAll_mk1 (shut_bool Tryz.underlying4 _), trodAll_below cffew_laidOut bel (cffew_readOk (by kernel_rfl)) (fun x hx => hlt x (List.mem_append_left _ hx)) hA1, rfl, bel.frame _, fun h => by cases h⟩
theorem cffew_bare : Rows.ConfFewerUptoSaid :=
 OpenClaim.holds_of_cond 4 Tryz.f4 rfl rfl rfl rfl rfl rfl rfl ⟨rfl, rfl, rfl, rfl, rfl⟩ rfl rfl rfl rfl rfl (by kernel_rfl) Tryz.func4 (by kernel_rfl)
   (of_decide_eq_true (by kernel_rfl)) (by unfold Func.isWrapper; first | (rw [if_pos (by decide +kernel)]; kernel_rfl) | (rw [if_neg (by decide +kernel)]; exact ⟨rfl, rfl⟩))
   (fun os started H enc _ F => by rw [OpenClaim.pre_eq_preRow]; exact cffew_lifted os started H enc F)
theorem cffew_plain (f : FuncId) (fn : Func) (hf : Tryz.pinned.checked.prog.funcNamed "dutyroster/dutykeep.ConfFewer" = some f) (hfn : Tryz.pinned.checked.prog.funcs[f]? = some fn) :
   true = Tryz.pinned.checked.prog.looks [] ∧ ∀ (j : Nat) t, fn.params[j]? = some t → Tryz.pinned.checked.prog.wantsStandIn t = false := by
 obtain rfl : f = 4 := Option.some.inj ((show Tryz.prog.funcNamed "dutyroster/dutykeep.ConfFewer" = some 4 by kernel_rfl).symm.trans hf) |>.symm
 obtain rfl : fn = Tryz.f4 := (Option.some.inj (Tryz.func4.symm.trans hfn)).symm
 refine ⟨by kernel_rfl, fun j t ht => ?_⟩
 rw [Tryz.params4] at ht
 have hm := Array.mem_of_getElem? ht
 simp at hm
 rcases hm with rfl | rfl | rfl
 all_goals (show Tryz.prog.wantsStandIn _ = false; kernel_rfl)
set_option maxRecDepth 100000 in
theorem ConfFewer_proved : Rows.ConfFewerUptoCardSaid :=
 Claim7.holds_tied_plain_at .later [] _ _ _ _ cffew_bare (fun _ h => by cases h) (by kernel_rfl) (fun _ h => by cases h) confFewerUpto_row_tie rfl ⟨rfl, rfl⟩ (by kernel_rfl) rfl cffew_plain (by kernel_rfl)
end

end Go.Proofs.YtnjngpjkhddnfaaGreatDoor
