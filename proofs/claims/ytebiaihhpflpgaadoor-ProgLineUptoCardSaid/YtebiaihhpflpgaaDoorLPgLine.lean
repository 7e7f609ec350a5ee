/- Lines ahead of one that can't be read can be; with it what stands behind it is no matter; for all inputs. -/
import Derived.Test.YtebiaihhpflpgaaDoorPgrL
import Derived.Test.YtebiaihhpflpgaaDoorPgrR
import Derived.Test.YtebiaihhpflpgaaDoorCards
import Derived.Test.YtebiaihhpflpgaaDoorTie
import Derived.Deep.DeepHandedRow
import Derived.Stop.LaidErr
import Derived.Shelf.Vars
set_option linter.all false
namespace Go.Proofs.YtebiaihhpflpgaaDoor
open Go Go.Abs

attribute [local irreducible] parseV
noncomputable def cLn : FuncId → Con := fun f => match f with
  | 10 => pureCon splitC_C
  | 11 => pureCon (detPC joinC_D)
  | 7 => pureCon parseC2_C
  | 9 => pureCon (detPC plives_D)
  | _ => fun _ _ _ => Bad 1001
theorem cLn_ok : ConOk Tryd.prog cLn := fun f A H K h => by
  unfold cLn at h
  split at h
  · exact ⟨⟨Tryd.f10, Tryd.func10, by kernel_rfl, by kernel_rfl⟩, pureCon_ok splitC_ok h⟩
  · exact ⟨⟨Tryd.f11, Tryd.func11, by kernel_rfl, by kernel_rfl⟩, pureCon_ok joinC_ok h⟩
  · exact ⟨⟨Tryd.f7, Tryd.func7, by kernel_rfl, by kernel_rfl⟩, pureCon_ok parseC2_ok h⟩
  · exact ⟨⟨Tryd.f9, Tryd.func9, by kernel_rfl, by kernel_rfl⟩, pureCon_ok plives_ok h⟩
  · cases h
def dLn : FuncId → Option Dt := fun f => match f with
  | 11 => some (.c joinC_D)
  | _ => none
theorem dLn_ok : DetOk Tryd.prog dLn := fun f d h => by
  unfold dLn at h
  split at h
  · cases h; exact ⟨⟨Tryd.f11, Tryd.func11, by kernel_rfl, by kernel_rfl⟩, joinC_ok⟩
  · cases h
set_option maxRecDepth 100000 in
set_option maxHeartbeats 4000000 in
theorem pgline_vc (s : ByteArray) (more : ByteArray) (fit_s : Siz.fit s) (fit_more : Siz.fit more) (hB : Siz.bulk s + Siz.bulk more ≤ 1048576) : FnOk Tryd.prog 4 [.s fun _ => s, .s fun _ => more] [] (outA (.bc true) []) := by
  refine fn_ok envOk zl cLn_ok (draws_ok envOk zl dLn_ok mixed) (keep := [0, 1, 4, 6, 7, 8, 11, 13, 14, 26, 41, 60]) Tryd.func4 rfl ?_
  have fin := @fin_b
  have finc := @fin_t
  have bs : s.size + 1 + (more.size + 1) ≤ 1048576 := hB
  generalize outA (.bc true) [] = K at fin finc
  cbv
  repeat' first | (show Stp _; exfalso; first | omega | (exact h ‹_›) | (exact absurd ‹_› h) | (exact Bool.false_ne_true (h.symm.trans (show _ = true by assumption)))) | (refine Stp.mk ?_; cbv) | (refine Gen.mk fun r hr => ?_; (try simp only [Dat.ok, Dat.dec, Leaf.ok, Leaf.val, Z0, Z1, val_sl, val_nil] at hr); cbv) | exact trivial | rfl | refine Both.mk ?_ ?_ | (refine Imp.mk fun h => ?_; (try dsimp only at h); (try simp only [nc, Int.toNat_natCast, ne_eq, zz] at h); (try simp only [nc] at h)) | refine Ob.mk ?_ ?_ | refine Chk.mk (by kernel_rfl) ?_ | refine Eq'.mk ?_ | (refine AllN.mk fun i hi => ?_; cbv) | (refine AllC.mk fun c hc hcm => ?_; (try dsimp only at hc); cbv) | (refine AllS.mk fun r hr => ?_; (try simp only [Dat.ok, Dat.dec, Leaf.ok, Leaf.val, Z0, Z1, val_sl] at hr); cbv)
  all_goals ((try dsimp only at *); (try simp only [nc, Int.toNat_natCast, ne_eq, zz] at *); (try simp only [nc] at *))
  all_goals try simp only [Dat.dec, Leaf.val, Z0, Z1, val_sl] at *
  all_goals try subst_vars
  all_goals try first
    | exact ⟨by omega, Nat.le_refl _⟩
    | (unfold InR; omega)
    | (refine fin ?_
       have h0 : (parseV s).2.1 = 0 := by
         rcases parse_three s with q | q
         · exact q.2.2
         · exact q.2.2 (by assumption)
       show ((parseV s).2.1 == 0) = true
       rw [h0]; rfl)
  all_goals have h10 : (parseV s).2.2 = 10 := by assumption
  all_goals obtain ⟨hz, a, x, b, h1, h2, h3, h4⟩ := parse_ten h10
  all_goals have h8 : splitV s ⟨⟨[10]⟩⟩ = a ++ x :: b := h1
  all_goals have hl : (a ++ x :: b).length = a.length + 1 + b.length := by rw [List.length_append, List.length_cons]; omega
  all_goals have f1 := line_front h1 h2
  all_goals have za := join_front h1
  all_goals have zx := join_front2 h1
  all_goals have ll : (a ++ x :: b).length ≤ s.size + 1 := by rw [← h1]; exact splitV_len
  all_goals have t1 : _ = a := (val_take (a ++ x :: b) 1 (a.length : Int).toNat (by omega)).trans (by rw [Int.toNat_natCast, List.take_left])
  all_goals have t2 : _ = a ++ [x] := (val_take (a ++ x :: b) 1 ((a.length : Int) + 1).toNat (by omega)).trans (by
    rw [show ((a.length : Int) + 1).toNat = a.length + 1 by omega, show a ++ x :: b = (a ++ [x]) ++ b by simp]
    exact List.take_left' (by simp))
  all_goals simp only [h8, h4] at *
  all_goals try simp only [t1, t2] at *
  all_goals try rw [hl] at *
  all_goals try first
    | omega
    | exact ⟨trivial, by omega, by omega⟩
    | (exfalso; omega)
    | (unfold InR; omega)
    | (show InR ((a.length : Int) + 1); unfold InR; omega)
    | exact ⟨⟨rfl, fun i _ => Dat.hok _⟩, by omega, Nat.le_trans za (by omega)⟩
    | exact ⟨⟨rfl, fun i _ => Dat.hok _⟩, by rw [List.length_append, List.length_singleton]; omega, Nat.le_trans zx (by omega)⟩
    | exact absurd (by assumption) f1
    | (refine fin ?_
       have f2 : ¬ (parseV (joinV a nl1)).2.2 = 10 := f1
       show (!((parseV (joinV a nl1)).2.2 == 10)) = true
       rw [show ((parseV (joinV a nl1)).2.2 == 10) = false from by simpa using f2]; rfl)
    | exact Nat.le_trans (Nat.add_le_add_right (show _ ≤ s.size from zx) _) (show s.size + 1 ≤ _ by omega)
    | (rw [ByteArray.size_append]
       exact Nat.le_trans (Nat.add_le_add_right (Nat.add_le_add_right (show _ ≤ s.size from zx) _) _) (show s.size + 1 + more.size ≤ _ by omega))
    | (have f3 := line_same (more := more) h1 h2 h3 (by omega)
       refine fin ?_
       show ((parseV (joinV (a ++ [x]) nl1 ++ nl1 ++ more)).2.1 == (a.length : Int)) = true
       rw [f3]; exact beq_self_eq_true _)
    | (exfalso
       have f3 := line_same (more := more) h1 h2 h3 (by omega)
       have f4 : ¬ (parseV (joinV (a ++ [x]) nl1 ++ nl1 ++ more)).2.2 = 10 := by assumption
       exact f4 (by rw [f3]))
section
open Go.ChangeShapes Go.WideShapes Go.ChangeAt Go.RowKit Go.Joins Go.Deep
set_option linter.unusedVariables false
theorem pgline_own : ownKnob Tryd.prog.godebug = none := by kernel_rfl
theorem pgline_tab3 {W : World} (h : laidMetH Tryd.prog Rows.progLineUptoRow.laid W) : Lib.TabIs Tryd.prog W "internal/strconv.uint64pow10" .u64 Lib.pow10Tab := by
  have h2 : laidMet Tryd.prog (Rows.progLineUptoRow.laid.drop 2) W := laidMet.tail (laidMet.tail (h))
  have hT : (Tryd.prog.globals[3]?).map (·.type) = some 117 := by kernel_rfl
  have hz : Lib.pow10Tab = [1, 10, 100, 1000, 10000, 100000, 1000000, 10000000, 100000000, 1000000000, 10000000000, 100000000000, 1000000000000, 10000000000000, 100000000000000, 1000000000000000, 10000000000000000, 100000000000000000, 1000000000000000000, 10000000000000000000] := by decide +kernel
  rw [hz]
  exact Lib.tabIs_of_head (n := 20) (e := 91) (by kernel_rfl) hT (by kernel_rfl) (by kernel_rfl) (by kernel_rfl) (by kernel_rfl) h2
theorem pgline_dom {W : World} (h : laidMetH Tryd.prog Rows.progLineUptoRow.laid W) (hsh : W.ShapedOpen Tryd.prog) : Dom W fun _ => False := by
  have ht := pgline_tab3 h
  have vlt : ∀ {n : String} {g : Nat} {cs : Array Value}, Tryd.prog.globalNamed n = some g → W.var? Tryd.prog n = some cs → g < W.heap.size := fun {n g cs} hg hv => by
    unfold World.var? at hv
    rw [hg] at hv
    rcases Nat.lt_or_ge g W.heap.size with q | q
    · exact q
    · simp [Array.getElem?_eq_none q] at hv
  have clt : ∀ {a : Addr} {v : Value}, W.cell? a = some v → a.block < W.heap.size := fun {a v} hv => by
    rcases Nat.lt_or_ge a.block W.heap.size with q | q
    · exact q
    · simp [World.cell?, Array.getElem?_eq_none q] at hv
  have h0 := cell_of_shapedOpen_int (P := Tryd.prog) (g := 0) (t := 3) (zero := #[.int .i64 0]) (k := .i64) hsh (of_decide_eq_true (by kernel_rfl)) (by kernel_rfl) rfl (by kernel_rfl) (by kernel_rfl) (by kernel_rfl)
  have g1 : laidMet Tryd.prog (Rows.progLineUptoRow.laid.drop 5) W := laidMet.tail (laidMet.tail (laidMet.tail (laidMet.tail (laidMet.tail (h)))))
  have h1 : ∃ t p, W.var? Tryd.prog "strconv.ErrSyntax" = some #[.iface t p] := by
    have st : "*" ++ "errors.errorString" = "*errors.errorString" := by decide
    have hr : ∀ u, Tryd.prog.typeName? 3 u = some "*errors.errorString" → u = 126 := fun u hu => typeName_ptr_named (nm := "errors.errorString") (by rw [st]; kernel_rfl) (by kernel_rfl) (by decide) u (by rw [st]; exact hu)
    obtain ⟨a, _, h1, _⟩ := laid_sentinel (g := 4) (ti := 48) (tp := 126) (te := 128) (ts := 9) (ms := #[("Error", 54)]) g1 (by kernel_rfl) (by kernel_rfl) Tryd.underlying48 hr Tryd.underlying126 Tryd.underlying128 rfl rfl (by kernel_rfl) (by kernel_rfl) (by kernel_rfl)
    exact ⟨_, _, h1⟩
  have g2 : laidMet Tryd.prog (Rows.progLineUptoRow.laid.drop 4) W := laidMet.tail (laidMet.tail (laidMet.tail (laidMet.tail (h))))
  have h2 : ∃ t p, W.var? Tryd.prog "strconv.ErrRange" = some #[.iface t p] := by
    have st : "*" ++ "errors.errorString" = "*errors.errorString" := by decide
    have hr : ∀ u, Tryd.prog.typeName? 3 u = some "*errors.errorString" → u = 126 := fun u hu => typeName_ptr_named (nm := "errors.errorString") (by rw [st]; kernel_rfl) (by kernel_rfl) (by decide) u (by rw [st]; exact hu)
    obtain ⟨a, _, h1, _⟩ := laid_sentinel (g := 5) (ti := 48) (tp := 126) (te := 128) (ts := 9) (ms := #[("Error", 54)]) g2 (by kernel_rfl) (by kernel_rfl) Tryd.underlying48 hr Tryd.underlying126 Tryd.underlying128 rfl rfl (by kernel_rfl) (by kernel_rfl) (by kernel_rfl)
    exact ⟨_, _, h1⟩
  have l3 : 3 < W.heap.size := by
    have hv := ht
    unfold Lib.TabIs World.var? at hv
    rw [show Tryd.prog.globalNamed "internal/strconv.uint64pow10" = some 3 by kernel_rfl] at hv
    rcases Nat.lt_or_ge 3 W.heap.size with q | q
    · exact q
    · simp [Array.getElem?_eq_none q] at hv
  have m0 : 0 < W.heap.size := clt h0.choose_spec
  have m1 : 4 < W.heap.size := (by obtain ⟨t, p, e⟩ := h1; exact vlt (g := 4) (by kernel_rfl) e)
  have m2 : 5 < W.heap.size := (by obtain ⟨t, p, e⟩ := h2; exact vlt (g := 5) (by kernel_rfl) e)
  refine ⟨fun _ h => h.elim, fun g hg => ⟨?_, fun h => h⟩, ht, h0, h1, h2⟩
  simp [Kd.tl, kdI] at hg
  rcases hg with rfl | rfl | rfl | rfl <;> assumption
def pgline_setC (cs : Array Value) : Obj → Obj
  | .cells _ t frozen => .cells cs t frozen
  | o => o
noncomputable def pgline_low : Nat := (World.holding Tryd.prog default ⟨#[], #[], []⟩).heap.size
noncomputable def pgline_laidWorld (os : Os) : World :=
  { World.holding Tryd.prog os ⟨#[.cells #[.string ⟨#[118, 97, 108, 117, 101, 32, 111, 117, 116, 32, 111, 102, 32, 114, 97, 110, 103, 101]⟩] 128, .cells #[.string ⟨#[105, 110, 118, 97, 108, 105, 100, 32, 115, 121, 110, 116, 97, 120]⟩] 128], #[], []⟩ with heap := ((((((((World.holding Tryd.prog os ⟨#[.cells #[.string ⟨#[118, 97, 108, 117, 101, 32, 111, 117, 116, 32, 111, 102, 32, 114, 97, 110, 103, 101]⟩] 128, .cells #[.string ⟨#[105, 110, 118, 97, 108, 105, 100, 32, 115, 121, 110, 116, 97, 120]⟩] 128], #[], []⟩).heap).modify 6 (pgline_setC #[.int .u8 0, .int .u8 1, .int .u8 28, .int .u8 2, .int .u8 29, .int .u8 14, .int .u8 24, .int .u8 3, .int .u8 30, .int .u8 22, .int .u8 20, .int .u8 15, .int .u8 25, .int .u8 17, .int .u8 4, .int .u8 8, .int .u8 31, .int .u8 27, .int .u8 13, .int .u8 23, .int .u8 21, .int .u8 19, .int .u8 16, .int .u8 7, .int .u8 26, .int .u8 12, .int .u8 18, .int .u8 6, .int .u8 11, .int .u8 5, .int .u8 10, .int .u8 9])).modify 7 (pgline_setC #[.int .u8 0, .int .u8 1, .int .u8 56, .int .u8 2, .int .u8 57, .int .u8 49, .int .u8 28, .int .u8 3, .int .u8 61, .int .u8 58, .int .u8 42, .int .u8 50, .int .u8 38, .int .u8 29, .int .u8 17, .int .u8 4, .int .u8 62, .int .u8 47, .int .u8 59, .int .u8 36, .int .u8 45, .int .u8 43, .int .u8 51, .int .u8 22, .int .u8 53, .int .u8 39, .int .u8 33, .int .u8 30, .int .u8 24, .int .u8 18, .int .u8 12, .int .u8 5, .int .u8 63, .int .u8 55, .int .u8 48, .int .u8 27, .int .u8 60, .int .u8 41, .int .u8 37, .int .u8 16, .int .u8 46, .int .u8 35, .int .u8 44, .int .u8 21, .int .u8 52, .int .u8 32, .int .u8 23, .int .u8 11, .int .u8 54, .int .u8 26, .int .u8 40, .int .u8 15, .int .u8 34, .int .u8 20, .int .u8 31, .int .u8 10, .int .u8 25, .int .u8 14, .int .u8 19, .int .u8 9, .int .u8 13, .int .u8 8, .int .u8 7, .int .u8 6])).modify 3 (pgline_setC #[.int .u64 1, .int .u64 10, .int .u64 100, .int .u64 1000, .int .u64 10000, .int .u64 100000, .int .u64 1000000, .int .u64 10000000, .int .u64 100000000, .int .u64 1000000000, .int .u64 10000000000, .int .u64 100000000000, .int .u64 1000000000000, .int .u64 10000000000000, .int .u64 100000000000000, .int .u64 1000000000000000, .int .u64 10000000000000000, .int .u64 100000000000000000, .int .u64 1000000000000000000, .int .u64 10000000000000000000])).modify 2 (pgline_setC #[.int .u8 128, .int .u8 191, .int .u8 160, .int .u8 191, .int .u8 128, .int .u8 159, .int .u8 144, .int .u8 191, .int .u8 128, .int .u8 143, .int .u8 0, .int .u8 0, .int .u8 0, .int .u8 0, .int .u8 0, .int .u8 0, .int .u8 0, .int .u8 0, .int .u8 0, .int .u8 0, .int .u8 0, .int .u8 0, .int .u8 0, .int .u8 0, .int .u8 0, .int .u8 0, .int .u8 0, .int .u8 0, .int .u8 0, .int .u8 0, .int .u8 0, .int .u8 0])).modify 5 (pgline_setC #[.iface 126 (.pointer (some ⟨pgline_low + 0, 0, none⟩))])).modify 4 (pgline_setC #[.iface 126 (.pointer (some ⟨pgline_low + 1, 0, none⟩))])).modify 1 (pgline_setC ((Go.Pinned.utf8FirstZ.map fun n : Nat => Value.int .u8 (n : Int)).toArray)) }
theorem pgline_laid_met (os : Os) : laidMet Tryd.prog Rows.progLineUptoRow.laid ((pgline_laidWorld os).forCall (fun _ _ => 0) ⟨#[], #[.string .empty, .string .empty], []⟩).memory :=
  laidMet_of_run' 8 (by kernel_rfl) (by kernel_rfl)
theorem pgline_reads (os : Os) {H : Type} (enc : TypeId × Value → H) : ∃ places, DataW.whole enc Tryd.prog ((pgline_laidWorld os).forCall (fun _ _ => 0) ⟨#[], #[.string .empty, .string .empty], []⟩).memory Tryd.f4.params.toList Rows.progLineSpec.vars false (#[.string .empty, .string .empty] : Array Value).toList 8 = some ([.lit (.string []), .lit (.string [])], [], places) :=
  ⟨[], by kernel_rfl⟩
theorem pgline_laidOut : laidOutB Tryd.prog = true := by kernel_rfl
theorem pgline_readOk {ts : Array TypeId} (h : ts.toList.all (fun t => Tryd.prog.readableRec t && decide (t < Tryd.prog.types.size)) = true) : ∀ t ∈ ts.toList, Tryd.prog.readableRec t = true ∧ t < Tryd.prog.types.size := fun t ht => by
  have := List.all_eq_true.1 h t ht
  simpa using this
mutual
theorem pgline_bD {H : Type} : ∀ d : DataW H, Rows.uptoBulk d = bulkD d
  | .lit l => by cases l <;> simp [Rows.uptoBulk, bulkD]
  | .nil => by simp [Rows.uptoBulk, bulkD]
  | .ptr d => by simp [Rows.uptoBulk, bulkD, pgline_bD d]
  | .slice a b => by simp [Rows.uptoBulk, bulkD, pgline_bL a, pgline_bL b]
  | .agg a => by simp [Rows.uptoBulk, bulkD, pgline_bL a]
  | .iface _ d => by simp [Rows.uptoBulk, bulkD, pgline_bD d]
  | .map e => by simp [Rows.uptoBulk, bulkD, pgline_bE e]
  | .held _ => by simp [Rows.uptoBulk, bulkD]
theorem pgline_bL {H : Type} : ∀ d : List (DataW H), Rows.uptoBulkAll d = bulkL d
  | [] => by simp [Rows.uptoBulkAll, bulkL]
  | d :: r => by simp [Rows.uptoBulkAll, bulkL, pgline_bD d, pgline_bL r]
theorem pgline_bE {H : Type} : ∀ d : List (Lit × DataW H), Rows.uptoBulkEntries d = bulkE d
  | [] => by simp [Rows.uptoBulkEntries, bulkE]
  | d :: r => by simp [Rows.uptoBulkEntries, bulkE, pgline_bX d, pgline_bE r]
theorem pgline_bX {H : Type} : ∀ d : Lit × DataW H, Rows.uptoBulkEntry d = bulkX d
  | (l, d) => by cases l <;> simp [Rows.uptoBulkEntry, bulkX, pgline_bD d]
end
set_option maxRecDepth 100000 in
theorem pgline_lifted (os : Os) (started : os.Started) (H : Type) (enc : TypeId × Value → H) (F : Stop.Interp) :
    ReturnsInHanded {} Tryd.checked os 4 .any ((Rows.OpenSpec.upto Rows.progLineSpec).preRow enc Tryd.prog Tryd.f4 Rows.progLineUptoRow.domain false Rows.progLineUptoRow.laid) (((Rows.OpenSpec.upto Rows.progLineSpec).at F).post enc Tryd.prog Tryd.f4 false true false false) := by
  obtain ⟨places, hx⟩ := pgline_reads os enc
  refine returnsInHanded_of_row (C := Tryd.checked) (s := Rows.OpenSpec.upto Rows.progLineSpec) pgline_own started (by kernel_rfl) Tryd.func4
    (witness_row_at (enc := enc) (C := Tryd.checked) false (pgline_laidWorld os) #[.string .empty, .string .empty] rfl (by kernel_rfl) (by kernel_rfl) (by kernel_rfl)
      (OpenSpec.preRow_of_cond 8 hx (by kernel_rfl) (fun k hk => by cases hk; kernel_rfl) (by kernel_rfl) (pgline_laid_met os))) ?_
  intro W base args ds gs before hval0 hW _ hk0 _ hL hsh9 _
  have hk := hk0 _ rfl
  show Calls Tryd.prog 4 args W fun e W' => ∃ v, e = .returned v ∧ Rows.progLineSpec.post enc Tryd.prog Tryd.f4 false true false false W args v W'
  have hval : ∀ (j : Nat) t v, Tryd.f4.params[j]? = some t → args[j]? = some v → Value.okWide Tryd.prog W .any base t v := hval0
  have hW' := hW
  have hlt := hW.lt
  obtain ⟨p, q, hA0, hV, rfl, hfz, hnd⟩ := hW
  have hA : DataW.TrodAll enc Tryd.prog W 0 (fun _ => true) true Tryd.f4.params.toList args.toList ds p := hA0
  have hA1 := hA
  rw [Tryd.params4] at hA hval
  obtain ⟨v0, vs0, d0, ds0, p0, q0, hargs, rfl, rfl, h0, r0⟩ := trodAll_cons hA
  obtain ⟨v1, vs1, d1, ds1, p1, q1, rfl, rfl, rfl, h1, r1⟩ := trodAll_cons r0
  obtain ⟨rfl, rfl, rfl⟩ := trodAll_nil r1
  obtain rfl : args = #[v0, v1] := by cases args; simp_all
  obtain ⟨rfl, rfl⟩ := trodVars_none hV
  obtain ⟨z0, rfl⟩ := okWide_string Tryd.underlying9 (hval 0 9 v0 rfl rfl)
  obtain ⟨y0, u0, b0, e0⟩ := arg_leaf (α := ByteArray) (opn_str Tryd.underlying9) rfl h0
  obtain ⟨z1, rfl⟩ := okWide_string Tryd.underlying9 (hval 1 9 v1 rfl rfl)
  obtain ⟨y1, u1, b1, e1⟩ := arg_leaf (α := ByteArray) (opn_str Tryd.underlying9) rfl h1
  have hB : Siz.bulk y0 + Siz.bulk y1 ≤ 1048576 := by
    have h := of_decide_eq_true hk
    rw [pgline_bL] at h
    simp only [List.append_nil, bulkL] at h
    omega
  have hR := repL_cons (M := fun _ => False) (β := fun _ => none) (cp := fun _ => 0) (.c e0) (repL_cons (M := fun _ => False) (β := fun _ => none) (cp := fun _ => 0) (.c e1) (repL_nil))
  refine (law_callsA (pgline_vc y0 y1 u0 u1 hB) hR (pgline_dom hL hsh9)).mono fun e W' ⟨he, bel⟩ => ?_
  subst he
  exact ⟨_, rfl, _, _, _, [], _, [], hW', trodAll_mk1 (shut_bool Tryd.underlying4 _), trodAll_below pgline_laidOut bel (pgline_readOk (by kernel_rfl)) (fun x hx => hlt x (List.mem_append_left _ hx)) hA1, rfl, bel.frame _, fun h => by cases h⟩
theorem pgline_bare : Rows.ProgLineUptoSaid :=
  OpenClaim.holds_of_cond 4 Tryd.f4 rfl rfl rfl rfl rfl rfl rfl ⟨rfl, rfl, rfl, rfl, rfl⟩ rfl rfl rfl rfl rfl (by kernel_rfl) Tryd.func4 (by kernel_rfl)
    (of_decide_eq_true (by kernel_rfl)) (by unfold Func.isWrapper; first | (rw [if_pos (by decide +kernel)]; kernel_rfl) | (rw [if_neg (by decide +kernel)]; exact ⟨rfl, rfl⟩))
    (fun os started H enc _ F => by rw [OpenClaim.pre_eq_preRow]; exact pgline_lifted os started H enc F)
theorem pgline_plain (f : FuncId) (fn : Func) (hf : Tryd.pinned.checked.prog.funcNamed "dutyroster/dutykeep.ProgLine" = some f) (hfn : Tryd.pinned.checked.prog.funcs[f]? = some fn) :
    true = Tryd.pinned.checked.prog.looks [] ∧ ∀ (j : Nat) t, fn.params[j]? = some t → Tryd.pinned.checked.prog.wantsStandIn t = false := by
  obtain rfl : f = 4 := Option.some.inj ((show Tryd.prog.funcNamed "dutyroster/dutykeep.ProgLine" = some 4 by kernel_rfl).symm.trans hf) |>.symm
  obtain rfl : fn = Tryd.f4 := (Option.some.inj (Tryd.func4.symm.trans hfn)).symm
  refine ⟨by kernel_rfl, fun j t ht => ?_⟩
  rw [Tryd.params4] at ht
  have hm := Array.mem_of_getElem? ht
  simp at hm
  subst hm
  all_goals (show Tryd.prog.wantsStandIn _ = false; kernel_rfl)
set_option maxRecDepth 100000 in
theorem ProgLine_proved : Rows.ProgLineUptoCardSaid :=
  Claim7.holds_tied_plain_at .later [] _ _ _ _ pgline_bare (fun _ h => by cases h) (by kernel_rfl) (fun _ h => by cases h) progLineUpto_row_tie rfl ⟨rfl, rfl⟩ (by kernel_rfl) rfl pgline_plain (by kernel_rfl)
end

end Go.Proofs.YtebiaihhpflpgaaDoor
