/- The program's functions, walked: SortF. -/
import Derived.Test.YtadjemhbfaonbaaAbsSort
import Derived.Test.YtadjemhbfaonbaaSort
import Derived.Shelf.SlSortCmp.NoneTotal
import Derived.Shelf.SlicesG.Cmp
import Derived.Ground.SlsfProg
import Derived.Ground.SlgcProg
set_option linter.all false
namespace Go.Proofs.Ytadjemhbfaonbaa
open Go Go.Abs
open Go.Shelf Go.RowKit Go.Lib Go.Sort
instance concSpan : Conc Span where
  conc x := [.int .i64 x.frm, .int .i64 x.to]
  hlen _ := rfl
  one x v hv := by simp at hv; rcases hv with rfl | rfl <;> rfl
  to w M x j a v ha hr := by
    match j with
    | 0 => simp [Dat.enc, Leaf.av] at ha; subst ha; cases hr; rfl
    | 1 => simp [Dat.enc, Leaf.av] at ha; subst ha; cases hr; rfl
    | j + 2 => simp [Dat.enc] at ha
  fro w M x j a v ha hr := by
    match j with
    | 0 => simp [Dat.enc, Leaf.av] at ha hr; subst ha hr; exact .i _ _
    | 1 => simp [Dat.enc, Leaf.av] at ha hr; subst ha hr; exact .i _ _
    | j + 2 => simp [Dat.enc] at ha
instance inhSpan : Inhabited Span := ⟨Dat.d0⟩
section
open Go.Shelf
def Try.sortSp_ren : Go.Shelf.Ren := ⟨fun | 6 => 41 | 15 => 37 | 14 => 55 | 28 => 53 | 29 => 54 | 20 => 61 | 21 => 62 | 22 => 63 | 23 => 64 | 24 => 65 | 25 => 66 | 26 => 67 | 27 => 68 | 46 => 70 | 47 => 57 | 48 => 58 | 49 => 71 | 50 => 72 | 57 => 73 | n => n, fun | 22 => 44 | 24 => 64 | 25 => 76 | 3 => 3 | 39 => 73 | 0 => 0 | 53 => 89 | 55 => 91 | 4 => 4 | 46 => 83 | 45 => 82 | 50 => 78 | 5 => 5 | 9 => 9 | 66 => 93 | 70 => 97 | 76 => 104 | 77 => 55 | n => n, fun | n => n⟩
theorem Try.sortSp : Go.Proofs.SlLaysF0.n6 Try.prog Try.sortSp_ren := {
  mixed := by kernel_rfl
  f6 := ⟨Try.f41.name, by decide, Try.func41.trans (congrArg some (by kernel_rfl))⟩
  f14 := ⟨Try.f55.name, by decide, Try.func55.trans (congrArg some (by kernel_rfl))⟩
  f15 := Try.func37.trans (congrArg some (by kernel_rfl))
  f20 := ⟨Try.f61.name, by decide, Try.func61.trans (congrArg some (by kernel_rfl))⟩
  f21 := ⟨Try.f62.name, by decide, Try.func62.trans (congrArg some (by kernel_rfl))⟩
  f22 := ⟨Try.f63.name, by decide, Try.func63.trans (congrArg some (by kernel_rfl))⟩
  f23 := ⟨Try.f64.name, by decide, Try.func64.trans (congrArg some (by kernel_rfl))⟩
  f24 := ⟨Try.f65.name, by decide, Try.func65.trans (congrArg some (by kernel_rfl))⟩
  f25 := ⟨Try.f66.name, by decide, Try.func66.trans (congrArg some (by kernel_rfl))⟩
  f26 := ⟨Try.f67.name, by decide, Try.func67.trans (congrArg some (by kernel_rfl))⟩
  f27 := ⟨Try.f68.name, by decide, Try.func68.trans (congrArg some (by kernel_rfl))⟩
  f28 := Try.func53.trans (congrArg some (by kernel_rfl))
  f29 := Try.func54.trans (congrArg some (by kernel_rfl))
  f46 := ⟨Try.f70.name, by decide, Try.func70.trans (congrArg some (by kernel_rfl))⟩
  f47 := Try.func57.trans (congrArg some (by kernel_rfl))
  f48 := Try.func58.trans (congrArg some (by kernel_rfl))
  f49 := ⟨Try.f71.name, by decide, Try.func71.trans (congrArg some (by kernel_rfl))⟩
  f50 := ⟨Try.f72.name, by decide, Try.func72.trans (congrArg some (by kernel_rfl))⟩
  f57 := ⟨Try.f73.name, by decide, Try.func73.trans (congrArg some (by kernel_rfl))⟩
  t0 := Try.underlying0
  a0 := Try.isAgg0
  z0 := Try.sizeOf0
  v0 := Try.zeroValue0
  t3 := Try.underlying3
  a3 := Try.isAgg3
  z3 := Try.sizeOf3
  v3 := Try.zeroValue3
  t4 := Try.underlying4
  a4 := Try.isAgg4
  z4 := Try.sizeOf4
  v4 := Try.zeroValue4
  t5 := Try.underlying5
  a5 := Try.isAgg5
  z5 := Try.sizeOf5
  v5 := Try.zeroValue5
  t9 := Try.underlying9
  a9 := Try.isAgg9
  z9 := Try.sizeOf9
  v9 := Try.zeroValue9
  t22 := Try.underlying44
  a22 := Try.isAgg44
  z22 := Try.sizeOf44
  v22 := Try.zeroValue44
  t25 := Try.underlying76
  a25 := Try.isAgg76
  z25 := Try.sizeOf76
  v25 := Try.zeroValue76
  t39 := Try.underlying73
  a39 := Try.isAgg73
  z39 := Try.sizeOf73
  v39 := Try.zeroValue73
  t45 := Try.underlying82
  a45 := Try.isAgg82
  z45 := Try.sizeOf82
  v45 := Try.zeroValue82
  t46 := Try.underlying83
  a46 := Try.isAgg83
  z46 := Try.sizeOf83
  v46 := Try.zeroValue83
  t50 := Try.underlying78
  a50 := Try.isAgg78
  z50 := Try.sizeOf78
  v50 := Try.zeroValue78
  t53 := Try.underlying89
  a53 := Try.isAgg89
  z53 := Try.sizeOf89
  v53 := Try.zeroValue89
  t55 := Try.underlying91
  a55 := Try.isAgg91
  z55 := Try.sizeOf91
  v55 := Try.zeroValue91
  t66 := Try.underlying93
  a66 := Try.isAgg93
  z66 := Try.sizeOf93
  v66 := Try.zeroValue93
  t70 := Try.underlying97
  a70 := Try.isAgg97
  z70 := Try.sizeOf97
  v70 := Try.zeroValue97
  t76 := Try.underlying104
  a76 := Try.isAgg104
  z76 := Try.sizeOf104
  v76 := Try.zeroValue104
  t77 := Try.underlying55
  a77 := Try.isAgg55
  z77 := Try.sizeOf55
  v77 := Try.zeroValue55 }
end
section
open Go.Shelf
def Try.cmpInt_ren : Go.Shelf.Ren := ⟨fun | 5 => 25 | 7 => 38 | n => n, fun | 22 => 3 | 3 => 3 | 4 => 4 | n => n, fun | n => n⟩
theorem Try.cmpInt : Go.Proofs.SlLaysC2.n5 Try.prog Try.cmpInt_ren := {
  mixed := by kernel_rfl
  f5 := ⟨Try.f25.name, by decide, Try.func25.trans (congrArg some (by kernel_rfl))⟩
  f7 := ⟨Try.f38.name, by decide, Try.func38.trans (congrArg some (by kernel_rfl))⟩
  t3 := Try.underlying3
  a3 := Try.isAgg3
  z3 := Try.sizeOf3
  v3 := Try.zeroValue3
  t4 := Try.underlying4
  a4 := Try.isAgg4
  z4 := Try.sizeOf4
  v4 := Try.zeroValue4
  t22 := Try.underlying3
  a22 := Try.isAgg3
  z22 := Try.sizeOf3
  v22 := Try.zeroValue3 }
end
def sortSpan_cf : Span → Span → Int := fun x y => Lib.compareInt x.frm y.frm
set_option maxHeartbeats 1000000 in
theorem sortSpan_clo (x y : Span) (W : World) : Calls Try.prog 42 #[.agg (Conc.conc x).toArray, .agg (Conc.conc y).toArray] W fun e w' => e = .returned (.int .i64 (sortSpan_cf x y)) ∧ ∃ q os', w' = grow (W.drewN q) os' := by
  have hcon := fun W' => AnyG.cmp_Compare_int Try.cmpInt x.frm y.frm W'
  change ∀ W', Calls Try.prog 25 _ _ _ at hcon
  show Calls Try.prog 42 #[.agg #[.int .i64 x.frm, .int .i64 x.to], .agg #[.int .i64 y.frm, .int .i64 y.to]] W fun e w' => e = .returned (.int .i64 (Lib.compareInt x.frm y.frm)) ∧ ∃ q os', w' = grow (W.drewN q) os'
  generalize Lib.compareInt x.frm y.frm = r at hcon ⊢
  go_enter Try.func42, Try.ntmps42
  go_wp2_with (go_at_call 25; refine (hcon _).mono ?_; rintro e w' ⟨rfl, rfl⟩)
  go_ret
  exact ⟨rfl, 0, _, by rw [alloc_eq_grow, alloc_eq_grow, grow_grow]; rfl⟩
theorem sortSpan_lt (x y : Span) : ltOf sortSpan_cf x y = decide (x.frm < y.frm) := by
  unfold ltOf sortSpan_cf Lib.compareInt
  by_cases h1 : x.frm < y.frm
  · simp [h1]
  · by_cases h2 : y.frm < x.frm <;> simp [h1, h2]
theorem sortSpan_swo : SWO (ltOf sortSpan_cf) where
  irrefl x := by rw [sortSpan_lt]; simp
  trans x y z h1 h2 := by rw [sortSpan_lt] at *; simp at *; omega
  ntrans x y z h1 h2 := by rw [sortSpan_lt] at *; simp at *; omega
noncomputable def sortSpan_K : Con := turnCon Span (Sorts sortSpan_cf) (oneFn 42)
theorem sortSpan_ok {A : List AV} {H : Hp} {K : Kont} (h : sortSpan_K A H K) : FnOk Try.prog 41 A H K :=
  sortFunc_ok (α := Span) (ρ := Try.sortSp_ren) Try.sortSp Try.isAgg64 Try.sizeOf64 sortSpan_cf sortSpan_swo 42 (enters_of Try.func42 (by kernel_rfl) rfl) (fun blk size w m os dk hs x y => sortSpan_clo x y _) h

end Go.Proofs.Ytadjemhbfaonbaa
