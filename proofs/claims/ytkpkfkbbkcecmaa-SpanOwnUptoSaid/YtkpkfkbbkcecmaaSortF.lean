/- The program's functions, walked: SortF. -/
import Derived.Test.YtkpkfkbbkcecmaaAbsSort
import Derived.Test.YtkpkfkbbkcecmaaSort
import Derived.Shelf.SlSortCmp.NoneTotal
import Derived.Shelf.SlicesG.Cmp
import Derived.Ground.SlsfProg
import Derived.Ground.SlgcProg
set_option linter.all false
namespace Go.Proofs.Ytkpkfkbbkcecmaa
open Go Go.Abs
open Go.Shelf Go.RowKit Go.Lib Go.Sort
instance concSpan : Conc Span where
  conc x := [.int .i64 x.frm, .int .i64 x.to]
  hlen _ := rfl
  one x v hv := by simp at hv; rcases hv with rfl | rfl <;> rfl
  to w M x j a v ha hr := by
    match j with
    | 0 => simp [Dat.enc, Leaf.av] at ha; subst ha; cases hr; rfl
    | 1 => simp [Dat.enc, Leaf.av] at ha; subst ha; cases hr; rfl
    | j + 2 => simp [Dat.enc] at ha
  fro w M x j a v ha hr := by
    match j with
    | 0 => simp [Dat.enc, Leaf.av] at ha hr; subst ha hr; exact .i _ _
    | 1 => simp [Dat.enc, Leaf.av] at ha hr; subst ha hr; exact .i _ _
    | j + 2 => simp [Dat.enc] at ha
instance inhSpan : Inhabited Span := ⟨Dat.d0⟩
section
open Go.Shelf
def Try.sortSp_ren : Go.Shelf.Ren := ⟨fun | 6 => 27 | 15 => 37 | 14 => 36 | 28 => 47 | 29 => 48 | 20 => 39 | 21 => 40 | 22 => 41 | 23 => 42 | 24 => 43 | 25 => 44 | 26 => 45 | 27 => 46 | 46 => 49 | 47 => 50 | 48 => 51 | 49 => 52 | 50 => 53 | 57 => 54 | n => n, fun | 22 => 22 | 24 => 39 | 25 => 54 | 3 => 3 | 39 => 63 | 0 => 0 | 53 => 73 | 55 => 75 | 4 => 4 | 46 => 67 | 45 => 66 | 50 => 58 | 5 => 5 | 9 => 9 | 66 => 76 | 70 => 80 | 76 => 82 | 77 => 83 | n => n, fun | n => n⟩
theorem Try.sortSp : Go.Proofs.SlLaysF0.n6 Try.prog Try.sortSp_ren := {
  mixed := by kernel_rfl
  f6 := ⟨Try.f27.name, by decide, Try.func27.trans (congrArg some (by kernel_rfl))⟩
  f14 := ⟨Try.f36.name, by decide, Try.func36.trans (congrArg some (by kernel_rfl))⟩
  f15 := Try.func37.trans (congrArg some (by kernel_rfl))
  f20 := ⟨Try.f39.name, by decide, Try.func39.trans (congrArg some (by kernel_rfl))⟩
  f21 := ⟨Try.f40.name, by decide, Try.func40.trans (congrArg some (by kernel_rfl))⟩
  f22 := ⟨Try.f41.name, by decide, Try.func41.trans (congrArg some (by kernel_rfl))⟩
  f23 := ⟨Try.f42.name, by decide, Try.func42.trans (congrArg some (by kernel_rfl))⟩
  f24 := ⟨Try.f43.name, by decide, Try.func43.trans (congrArg some (by kernel_rfl))⟩
  f25 := ⟨Try.f44.name, by decide, Try.func44.trans (congrArg some (by kernel_rfl))⟩
  f26 := ⟨Try.f45.name, by decide, Try.func45.trans (congrArg some (by kernel_rfl))⟩
  f27 := ⟨Try.f46.name, by decide, Try.func46.trans (congrArg some (by kernel_rfl))⟩
  f28 := Try.func47.trans (congrArg some (by kernel_rfl))
  f29 := Try.func48.trans (congrArg some (by kernel_rfl))
  f46 := ⟨Try.f49.name, by decide, Try.func49.trans (congrArg some (by kernel_rfl))⟩
  f47 := Try.func50.trans (congrArg some (by kernel_rfl))
  f48 := Try.func51.trans (congrArg some (by kernel_rfl))
  f49 := ⟨Try.f52.name, by decide, Try.func52.trans (congrArg some (by kernel_rfl))⟩
  f50 := ⟨Try.f53.name, by decide, Try.func53.trans (congrArg some (by kernel_rfl))⟩
  f57 := ⟨Try.f54.name, by decide, Try.func54.trans (congrArg some (by kernel_rfl))⟩
  t0 := Try.underlying0
  a0 := Try.isAgg0
  z0 := Try.sizeOf0
  v0 := Try.zeroValue0
  t3 := Try.underlying3
  a3 := Try.isAgg3
  z3 := Try.sizeOf3
  v3 := Try.zeroValue3
  t4 := Try.underlying4
  a4 := Try.isAgg4
  z4 := Try.sizeOf4
  v4 := Try.zeroValue4
  t5 := Try.underlying5
  a5 := Try.isAgg5
  z5 := Try.sizeOf5
  v5 := Try.zeroValue5
  t9 := Try.underlying9
  a9 := Try.isAgg9
  z9 := Try.sizeOf9
  v9 := Try.zeroValue9
  t22 := Try.underlying22
  a22 := Try.isAgg22
  z22 := Try.sizeOf22
  v22 := Try.zeroValue22
  t25 := Try.underlying54
  a25 := Try.isAgg54
  z25 := Try.sizeOf54
  v25 := Try.zeroValue54
  t39 := Try.underlying63
  a39 := Try.isAgg63
  z39 := Try.sizeOf63
  v39 := Try.zeroValue63
  t45 := Try.underlying66
  a45 := Try.isAgg66
  z45 := Try.sizeOf66
  v45 := Try.zeroValue66
  t46 := Try.underlying67
  a46 := Try.isAgg67
  z46 := Try.sizeOf67
  v46 := Try.zeroValue67
  t50 := Try.underlying58
  a50 := Try.isAgg58
  z50 := Try.sizeOf58
  v50 := Try.zeroValue58
  t53 := Try.underlying73
  a53 := Try.isAgg73
  z53 := Try.sizeOf73
  v53 := Try.zeroValue73
  t55 := Try.underlying75
  a55 := Try.isAgg75
  z55 := Try.sizeOf75
  v55 := Try.zeroValue75
  t66 := Try.underlying76
  a66 := Try.isAgg76
  z66 := Try.sizeOf76
  v66 := Try.zeroValue76
  t70 := Try.underlying80
  a70 := Try.isAgg80
  z70 := Try.sizeOf80
  v70 := Try.zeroValue80
  t76 := Try.underlying82
  a76 := Try.isAgg82
  z76 := Try.sizeOf82
  v76 := Try.zeroValue82
  t77 := Try.underlying83
  a77 := Try.isAgg83
  z77 := Try.sizeOf83
  v77 := Try.zeroValue83 }
end
section
open Go.Shelf
def Try.cmpInt_ren : Go.Shelf.Ren := ⟨fun | 5 => 29 | 7 => 38 | n => n, fun | 22 => 3 | 3 => 3 | 4 => 4 | n => n, fun | n => n⟩
theorem Try.cmpInt : Go.Proofs.SlLaysC2.n5 Try.prog Try.cmpInt_ren := {
  mixed := by kernel_rfl
  f5 := ⟨Try.f29.name, by decide, Try.func29.trans (congrArg some (by kernel_rfl))⟩
  f7 := ⟨Try.f38.name, by decide, Try.func38.trans (congrArg some (by kernel_rfl))⟩
  t3 := Try.underlying3
  a3 := Try.isAgg3
  z3 := Try.sizeOf3
  v3 := Try.zeroValue3
  t4 := Try.underlying4
  a4 := Try.isAgg4
  z4 := Try.sizeOf4
  v4 := Try.zeroValue4
  t22 := Try.underlying3
  a22 := Try.isAgg3
  z22 := Try.sizeOf3
  v22 := Try.zeroValue3 }
end
def sortSpan_cf : Span → Span → Int := fun x y => Lib.compareInt x.frm y.frm
set_option maxHeartbeats 1000000 in
theorem sortSpan_clo (x y : Span) (W : World) : Calls Try.prog 28 #[.agg (Conc.conc x).toArray, .agg (Conc.conc y).toArray] W fun e w' => e = .returned (.int .i64 (sortSpan_cf x y)) ∧ ∃ q os', w' = grow (W.drewN q) os' := by
  have hcon := fun W' => AnyG.cmp_Compare_int Try.cmpInt x.frm y.frm W'
  change ∀ W', Calls Try.prog 29 _ _ _ at hcon
  show Calls Try.prog 28 #[.agg #[.int .i64 x.frm, .int .i64 x.to], .agg #[.int .i64 y.frm, .int .i64 y.to]] W fun e w' => e = .returned (.int .i64 (Lib.compareInt x.frm y.frm)) ∧ ∃ q os', w' = grow (W.drewN q) os'
  generalize Lib.compareInt x.frm y.frm = r at hcon ⊢
  go_enter Try.func28, Try.ntmps28
  go_wp2_with (go_at_call 29; refine (hcon _).mono ?_; rintro e w' ⟨rfl, rfl⟩)
  go_ret
  exact ⟨rfl, 0, _, by rw [alloc_eq_grow, alloc_eq_grow, grow_grow]; rfl⟩
theorem sortSpan_lt (x y : Span) : ltOf sortSpan_cf x y = decide (x.frm < y.frm) := by
  unfold ltOf sortSpan_cf Lib.compareInt
  by_cases h1 : x.frm < y.frm
  · simp [h1]
  · by_cases h2 : y.frm < x.frm <;> simp [h1, h2]
theorem sortSpan_swo : SWO (ltOf sortSpan_cf) where
  irrefl x := by rw [sortSpan_lt]; simp
  trans x y z h1 h2 := by rw [sortSpan_lt] at *; simp at *; omega
  ntrans x y z h1 h2 := by rw [sortSpan_lt] at *; simp at *; omega
noncomputable def sortSpan_K : Con := turnCon Span (Sorts sortSpan_cf) (oneFn 28)
theorem sortSpan_ok {A : List AV} {H : Hp} {K : Kont} (h : sortSpan_K A H K) : FnOk Try.prog 27 A H K :=
  sortFunc_ok (α := Span) (ρ := Try.sortSp_ren) Try.sortSp Try.isAgg39 Try.sizeOf39 sortSpan_cf sortSpan_swo 28 (enters_of Try.func28 (by kernel_rfl) rfl) (fun blk size w m os dk hs x y => sortSpan_clo x y _) h

end Go.Proofs.Ytkpkfkbbkcecmaa
