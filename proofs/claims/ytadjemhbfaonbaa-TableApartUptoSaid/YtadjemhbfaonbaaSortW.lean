/- The program's functions, walked: SortW. -/
import Derived.Test.YtadjemhbfaonbaaSortF
import Derived.Test.YtadjemhbfaonbaaTable
import Derived.Shelf.SlSortCmp.NoneTotal
import Derived.Shelf.SlicesG.Cmp
import Derived.Ground.SlsfProg
import Derived.Ground.SlgcProg
set_option linter.all false
namespace Go.Proofs.Ytadjemhbfaonbaa
open Go Go.Abs
open Go.Shelf Go.RowKit Go.Lib Go.Sort
instance concWindow : Conc Window where
  conc x := [.int .i64 x.frm, .int .i64 x.long, .int .i64 x.owner]
  hlen _ := rfl
  one x v hv := by simp at hv; rcases hv with rfl | rfl | rfl <;> rfl
  to w M x j a v ha hr := by
    match j with
    | 0 => simp [Dat.enc, Leaf.av] at ha; subst ha; cases hr; rfl
    | 1 => simp [Dat.enc, Leaf.av] at ha; subst ha; cases hr; rfl
    | 2 => simp [Dat.enc, Leaf.av] at ha; subst ha; cases hr; rfl
    | j + 3 => simp [Dat.enc] at ha
  fro w M x j a v ha hr := by
    match j with
    | 0 => simp [Dat.enc, Leaf.av] at ha hr; subst ha hr; exact .i _ _
    | 1 => simp [Dat.enc, Leaf.av] at ha hr; subst ha hr; exact .i _ _
    | 2 => simp [Dat.enc, Leaf.av] at ha hr; subst ha hr; exact .i _ _
    | j + 3 => simp [Dat.enc] at ha
instance inhWindow : Inhabited Window := ⟨Dat.d0⟩
section
open Go.Shelf
def Try.sortWw_ren : Go.Shelf.Ren := ⟨fun | 6 => 23 | 15 => 37 | 14 => 36 | 28 => 53 | 29 => 54 | 20 => 45 | 21 => 46 | 22 => 47 | 23 => 48 | 24 => 49 | 25 => 50 | 26 => 51 | 27 => 52 | 46 => 56 | 47 => 57 | 48 => 58 | 49 => 59 | 50 => 60 | 57 => 69 | n => n, fun | 22 => 22 | 24 => 30 | 25 => 61 | 3 => 3 | 39 => 73 | 0 => 0 | 53 => 89 | 55 => 91 | 4 => 4 | 46 => 83 | 45 => 82 | 50 => 78 | 5 => 5 | 9 => 9 | 66 => 93 | 70 => 97 | 76 => 104 | 77 => 55 | n => n, fun | n => n⟩
theorem Try.sortWw : Go.Proofs.SlLaysF0.n6 Try.prog Try.sortWw_ren := {
  mixed := by kernel_rfl
  f6 := ⟨Try.f23.name, by decide, Try.func23.trans (congrArg some (by kernel_rfl))⟩
  f14 := ⟨Try.f36.name, by decide, Try.func36.trans (congrArg some (by kernel_rfl))⟩
  f15 := Try.func37.trans (congrArg some (by kernel_rfl))
  f20 := ⟨Try.f45.name, by decide, Try.func45.trans (congrArg some (by kernel_rfl))⟩
  f21 := ⟨Try.f46.name, by decide, Try.func46.trans (congrArg some (by kernel_rfl))⟩
  f22 := ⟨Try.f47.name, by decide, Try.func47.trans (congrArg some (by kernel_rfl))⟩
  f23 := ⟨Try.f48.name, by decide, Try.func48.trans (congrArg some (by kernel_rfl))⟩
  f24 := ⟨Try.f49.name, by decide, Try.func49.trans (congrArg some (by kernel_rfl))⟩
  f25 := ⟨Try.f50.name, by decide, Try.func50.trans (congrArg some (by kernel_rfl))⟩
  f26 := ⟨Try.f51.name, by decide, Try.func51.trans (congrArg some (by kernel_rfl))⟩
  f27 := ⟨Try.f52.name, by decide, Try.func52.trans (congrArg some (by kernel_rfl))⟩
  f28 := Try.func53.trans (congrArg some (by kernel_rfl))
  f29 := Try.func54.trans (congrArg some (by kernel_rfl))
  f46 := ⟨Try.f56.name, by decide, Try.func56.trans (congrArg some (by kernel_rfl))⟩
  f47 := Try.func57.trans (congrArg some (by kernel_rfl))
  f48 := Try.func58.trans (congrArg some (by kernel_rfl))
  f49 := ⟨Try.f59.name, by decide, Try.func59.trans (congrArg some (by kernel_rfl))⟩
  f50 := ⟨Try.f60.name, by decide, Try.func60.trans (congrArg some (by kernel_rfl))⟩
  f57 := ⟨Try.f69.name, by decide, Try.func69.trans (congrArg some (by kernel_rfl))⟩
  t0 := Try.underlying0
  a0 := Try.isAgg0
  z0 := Try.sizeOf0
  v0 := Try.zeroValue0
  t3 := Try.underlying3
  a3 := Try.isAgg3
  z3 := Try.sizeOf3
  v3 := Try.zeroValue3
  t4 := Try.underlying4
  a4 := Try.isAgg4
  z4 := Try.sizeOf4
  v4 := Try.zeroValue4
  t5 := Try.underlying5
  a5 := Try.isAgg5
  z5 := Try.sizeOf5
  v5 := Try.zeroValue5
  t9 := Try.underlying9
  a9 := Try.isAgg9
  z9 := Try.sizeOf9
  v9 := Try.zeroValue9
  t22 := Try.underlying22
  a22 := Try.isAgg22
  z22 := Try.sizeOf22
  v22 := Try.zeroValue22
  t25 := Try.underlying61
  a25 := Try.isAgg61
  z25 := Try.sizeOf61
  v25 := Try.zeroValue61
  t39 := Try.underlying73
  a39 := Try.isAgg73
  z39 := Try.sizeOf73
  v39 := Try.zeroValue73
  t45 := Try.underlying82
  a45 := Try.isAgg82
  z45 := Try.sizeOf82
  v45 := Try.zeroValue82
  t46 := Try.underlying83
  a46 := Try.isAgg83
  z46 := Try.sizeOf83
  v46 := Try.zeroValue83
  t50 := Try.underlying78
  a50 := Try.isAgg78
  z50 := Try.sizeOf78
  v50 := Try.zeroValue78
  t53 := Try.underlying89
  a53 := Try.isAgg89
  z53 := Try.sizeOf89
  v53 := Try.zeroValue89
  t55 := Try.underlying91
  a55 := Try.isAgg91
  z55 := Try.sizeOf91
  v55 := Try.zeroValue91
  t66 := Try.underlying93
  a66 := Try.isAgg93
  z66 := Try.sizeOf93
  v66 := Try.zeroValue93
  t70 := Try.underlying97
  a70 := Try.isAgg97
  z70 := Try.sizeOf97
  v70 := Try.zeroValue97
  t76 := Try.underlying104
  a76 := Try.isAgg104
  z76 := Try.sizeOf104
  v76 := Try.zeroValue104
  t77 := Try.underlying55
  a77 := Try.isAgg55
  z77 := Try.sizeOf55
  v77 := Try.zeroValue55 }
end
def sortWin_cf : Window → Window → Int := fun x y => Lib.compareInt x.frm y.frm
set_option maxHeartbeats 1000000 in
theorem sortWin_clo (x y : Window) (W : World) : Calls Try.prog 24 #[.agg (Conc.conc x).toArray, .agg (Conc.conc y).toArray] W fun e w' => e = .returned (.int .i64 (sortWin_cf x y)) ∧ ∃ q os', w' = grow (W.drewN q) os' := by
  have hcon := fun W' => AnyG.cmp_Compare_int Try.cmpInt x.frm y.frm W'
  change ∀ W', Calls Try.prog 25 _ _ _ at hcon
  show Calls Try.prog 24 #[.agg #[.int .i64 x.frm, .int .i64 x.long, .int .i64 x.owner], .agg #[.int .i64 y.frm, .int .i64 y.long, .int .i64 y.owner]] W fun e w' => e = .returned (.int .i64 (Lib.compareInt x.frm y.frm)) ∧ ∃ q os', w' = grow (W.drewN q) os'
  generalize Lib.compareInt x.frm y.frm = r at hcon ⊢
  go_enter Try.func24, Try.ntmps24
  go_wp2_with (go_at_call 25; refine (hcon _).mono ?_; rintro e w' ⟨rfl, rfl⟩)
  go_ret
  exact ⟨rfl, 0, _, by rw [alloc_eq_grow, alloc_eq_grow, grow_grow]; rfl⟩
theorem sortWin_lt (x y : Window) : ltOf sortWin_cf x y = decide (x.frm < y.frm) := by
  unfold ltOf sortWin_cf Lib.compareInt
  by_cases h1 : x.frm < y.frm
  · simp [h1]
  · by_cases h2 : y.frm < x.frm <;> simp [h1, h2]
theorem sortWin_swo : SWO (ltOf sortWin_cf) where
  irrefl x := by rw [sortWin_lt]; simp
  trans x y z h1 h2 := by rw [sortWin_lt] at *; simp at *; omega
  ntrans x y z h1 h2 := by rw [sortWin_lt] at *; simp at *; omega
noncomputable def sortWin_K : Con := turnCon Window (Sorts sortWin_cf) (oneFn 24)
theorem sortWin_ok {A : List AV} {H : Hp} {K : Kont} (h : sortWin_K A H K) : FnOk Try.prog 23 A H K :=
  sortFunc_ok (α := Window) (ρ := Try.sortWw_ren) Try.sortWw Try.isAgg30 Try.sizeOf30 sortWin_cf sortWin_swo 24 (enters_of Try.func24 (by kernel_rfl) rfl) (fun blk size w m os dk hs x y => sortWin_clo x y _) h

end Go.Proofs.Ytadjemhbfaonbaa
