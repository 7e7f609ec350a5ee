/- The program's functions, walked: SortW. -/
import Derived.Test.YtnjngpjkhddnfaaGreatDoorSortF
import Derived.Test.YtnjngpjkhddnfaaGreatDoorTable
import Derived.Shelf.SlSortCmp.NoneTotal
import Derived.Shelf.SlicesG.Cmp
import Derived.Ground.SlsfProg
import Derived.Ground.SlgcProg
set_option linter.all false
namespace Go.Proofs.YtnjngpjkhddnfaaGreatDoor
open Go Go.Abs
open Go.Shelf Go.RowKit Go.Lib Go.Sort
instance concWindow : Conc Window where
 conc x := [.int .i64 x.frm, .int .i64 x.long, .int .i64 x.owner]
 hlen _ := rfl
 one x v hv := by simp at hv; rcases hv with rfl | rfl | rfl <;> rfl
 to w M x j a v ha hr := by
   match j with
   | 0 => simp [Dat.enc, Leaf.av] at ha; subst ha; cases hr; rfl
   | 1 => simp [Dat.enc, Leaf.av] at ha; subst ha; cases hr; rfl
   | 2 => simp [Dat.enc, Leaf.av] at ha; subst ha; cases hr; rfl
   | j + 3 => simp [Dat.enc] at ha
 fro w M x j a v ha hr := by
   match j with
   | 0 => simp [Dat.enc, Leaf.av] at ha hr; subst ha hr; exact .i _ _
   | 1 => simp [Dat.enc, Leaf.av] at ha hr; subst ha hr; exact .i _ _
   | 2 => simp [Dat.enc, Leaf.av] at ha hr; subst ha hr; exact .i _ _
   | j + 3 => simp [Dat.enc] at ha
instance inhWindow : Inhabited Window := ⟨Dat.d0⟩
section
open Go.Shelf
def Tryz.sortWw_ren : Go.Shelf.Ren := ⟨fun | 6 => 39 | 15 => 62 | 14 => 61 | 28 => 91 | 29 => 92 | 20 => 83 | 21 => 84 | 22 => 85 | 23 => 86 | 24 => 87 | 25 => 88 | 26 => 89 | 27 => 90 | 46 => 105 | 47 => 106 | 48 => 107 | 49 => 108 | 50 => 109 | 57 => 140 | n => n, fun | 22 => 34 | 24 => 42 | 25 => 96 | 3 => 3 | 39 => 120 | 0 => 0 | 53 => 149 | 55 => 128 | 4 => 4 | 46 => 142 | 45 => 141 | 50 => 146 | 5 => 5 | 9 => 9 | 66 => 157 | 70 => 161 | 76 => 190 | 77 => 191 | n => n, fun | n => n⟩
theorem Tryz.sortWw : Go.Proofs.SlLaysF0.n6 Tryz.prog Tryz.sortWw_ren := {
 mixed := by kernel_rfl
 f6 := ⟨Tryz.f39.name, by decide, Tryz.func39.trans (congrArg some (by kernel_rfl))⟩
 f14 := ⟨Tryz.f61.name, by decide, Tryz.func61.trans (congrArg some (by kernel_rfl))⟩
 f15 := Tryz.func62.trans (congrArg some (by kernel_rfl))
 f20 := ⟨Tryz.f83.name, by decide, Tryz.func83.trans (congrArg some (by kernel_rfl))⟩
 f21 := ⟨Tryz.f84.name, by decide, Tryz.func84.trans (congrArg some (by kernel_rfl))⟩
 f22 := ⟨Tryz.f85.name, by decide, Tryz.func85.trans (congrArg some (by kernel_rfl))⟩
 f23 := ⟨Tryz.f86.name, by decide, Tryz.func86.trans (congrArg some (by kernel_rfl))⟩
 f24 := ⟨Tryz.f87.name, by decide, Tryz.func87.trans (congrArg some (by kernel_rfl))⟩
 f25 := ⟨Tryz.f88.name, by decide, Tryz.func88.trans (congrArg some (by kernel_rfl))⟩
 f26 := ⟨Tryz.f89.name, by decide, Tryz.func89.trans (congrArg some (by kernel_rfl))⟩
 f27 := ⟨Tryz.f90.name, by decide, Tryz.func90.trans (congrArg some (by kernel_rfl))⟩
 f28 := Tryz.func91.trans (congrArg some (by kernel_rfl))
 f29 := Tryz.func92.trans (congrArg some (by kernel_rfl))
 f46 := ⟨Tryz.f105.name, by decide, Tryz.func105.trans (congrArg some (by kernel_rfl))⟩
 f47 := Tryz.func106.trans (congrArg some (by kernel_rfl))
 f48 := Tryz.func107.trans (congrArg some (by kernel_rfl))
 f49 := ⟨Tryz.f108.name, by decide, Tryz.func108.trans (congrArg some (by kernel_rfl))⟩
 f50 := ⟨Tryz.f109.name, by decide, Tryz.func109.trans (congrArg some (by kernel_rfl))⟩
 f57 := ⟨Tryz.f140.name, by decide, Tryz.func140.trans (congrArg some (by kernel_rfl))⟩
 t0 := Tryz.underlying0
 a0 := Tryz.isAgg0
 z0 := Tryz.sizeOf0
 v0 := Tryz.zeroValue0
 t3 := Tryz.underlying3
 a3 := Tryz.isAgg3
 z3 := Tryz.sizeOf3
 v3 := Tryz.zeroValue3
 t4 := Tryz.underlying4
 a4 := Tryz.isAgg4
 z4 := Tryz.sizeOf4
 v4 := Tryz.zeroValue4
 t5 := Tryz.underlying5
 a5 := Tryz.isAgg5
 z5 := Tryz.sizeOf5
 v5 := Tryz.zeroValue5
 t9 := Tryz.underlying9
 a9 := Tryz.isAgg9
 z9 := Tryz.sizeOf9
 v9 := Tryz.zeroValue9
 t22 := Tryz.underlying34
 a22 := Tryz.isAgg34
 z22 := Tryz.sizeOf34
 v22 := Tryz.zeroValue34
 t25 := Tryz.underlying96
 a25 := Tryz.isAgg96
 z25 := Tryz.sizeOf96
 v25 := Tryz.zeroValue96
 t39 := Tryz.underlying120
 a39 := Tryz.isAgg120
 z39 := Tryz.sizeOf120
 v39 := Tryz.zeroValue120
 t45 := Tryz.underlying141
 a45 := Tryz.isAgg141
 z45 := Tryz.sizeOf141
 v45 := Tryz.zeroValue141
 t46 := Tryz.underlying142
 a46 := Tryz.isAgg142
 z46 := Tryz.sizeOf142
 v46 := Tryz.zeroValue142
 t50 := Tryz.underlying146
 a50 := Tryz.isAgg146
 z50 := Tryz.sizeOf146
 v50 := Tryz.zeroValue146
 t53 := Tryz.underlying149
 a53 := Tryz.isAgg149
 z53 := Tryz.sizeOf149
 v53 := Tryz.zeroValue149
 t55 := Tryz.underlying128
 a55 := Tryz.isAgg128
 z55 := Tryz.sizeOf128
 v55 := Tryz.zeroValue128
 t66 := Tryz.underlying157
 a66 := Tryz.isAgg157
 z66 := Tryz.sizeOf157
 v66 := Tryz.zeroValue157
 t70 := Tryz.underlying161
 a70 := Tryz.isAgg161
 z70 := Tryz.sizeOf161
 v70 := Tryz.zeroValue161
 t76 := Tryz.underlying190
 a76 := Tryz.isAgg190
 z76 := Tryz.sizeOf190
 v76 := Tryz.zeroValue190
 t77 := Tryz.underlying191
 a77 := Tryz.isAgg191
 z77 := Tryz.sizeOf191
 v77 := Tryz.zeroValue191 }
end
def sortWin_cf : Window → Window → Int := fun x y => Lib.compareInt x.frm y.frm
set_option maxHeartbeats 1000000 in
theorem sortWin_clo (x y : Window) (W : World) : Calls Tryz.prog 40 #[.agg (Conc.conc x).toArray, .agg (Conc.conc y).toArray] W fun e w' => e = .returned (.int .i64 (sortWin_cf x y)) ∧ ∃ q os', w' = grow (W.drewN q) os' := by
 have hcon := fun W' => AnyG.cmp_Compare_int Tryz.cmpInt x.frm y.frm W'
 change ∀ W', Calls Tryz.prog 41 _ _ _ at hcon
 show Calls Tryz.prog 40 #[.agg #[.int .i64 x.frm, .int .i64 x.long, .int .i64 x.owner], .agg #[.int .i64 y.frm, .int .i64 y.long, .int .i64 y.owner]] W fun e w' => e = .returned (.int .i64 (Lib.compareInt x.frm y.frm)) ∧ ∃ q os', w' = grow (W.drewN q) os'
 generalize Lib.compareInt x.frm y.frm = r at hcon ⊢
 go_enter Tryz.func40, Tryz.ntmps40
 go_wp2_with (go_at_call 41; refine (hcon _).mono ?_; rintro e w' ⟨rfl, rfl⟩)
 go_ret
 exact ⟨rfl, 0, _, by rw [alloc_eq_grow, alloc_eq_grow, grow_grow]; rfl⟩
theorem sortWin_lt (x y : Window) : ltOf sortWin_cf x y = decide (x.frm < y.frm) := by
 unfold ltOf sortWin_cf Lib.compareInt
 by_cases h1 : x.frm < y.frm
 · simp [h1]
 · by_cases h2 : y.frm < x.frm <;> simp [h1, h2]
theorem sortWin_swo : SWO (ltOf sortWin_cf) where
 irrefl x := by rw [sortWin_lt]; simp
 trans x y z h1 h2 := by rw [sortWin_lt] at *; simp at *; omega
 ntrans x y z h1 h2 := by rw [sortWin_lt] at *; simp at *; omega
noncomputable def sortWin_K : Con := turnCon Window (Sorts sortWin_cf) (oneFn 40)
theorem sortWin_ok {A : List AV} {H : Hp} {K : Kont} (h : sortWin_K A H K) : FnOk Tryz.prog 39 A H K :=
 sortFunc_ok (α := Window) (ρ := Tryz.sortWw_ren) Tryz.sortWw Tryz.isAgg42 Tryz.sizeOf42 sortWin_cf sortWin_swo 40 (enters_of Tryz.func40 (by kernel_rfl) rfl) (fun blk size w m os dk hs x y => sortWin_clo x y _) h

end Go.Proofs.YtnjngpjkhddnfaaGreatDoor
