/- The program's functions, walked: SortF. -/
import Derived.Test.YtnjngpjkhddnfaaGreatDoorAbsSort
import Derived.Test.YtnjngpjkhddnfaaGreatDoorSort
import Derived.Shelf.SlSortCmp.NoneTotal
import Derived.Shelf.SlicesG.Cmp
import Derived.Ground.SlsfProg
import Derived.Ground.SlgcProg
set_option linter.all false
namespace Go.Proofs.YtnjngpjkhddnfaaGreatDoor
open Go Go.Abs
open Go.Shelf Go.RowKit Go.Lib Go.Sort
instance concSpan : Conc Span where
 conc x := [.int .i64 x.frm, .int .i64 x.to]
 hlen _ := rfl
 one x v hv := by simp at hv; rcases hv with rfl | rfl <;> rfl
 to w M x j a v ha hr := by
   match j with
   | 0 => simp [Dat.enc, Leaf.av] at ha; subst ha; cases hr; rfl
   | 1 => simp [Dat.enc, Leaf.av] at ha; subst ha; cases hr; rfl
   | j + 2 => simp [Dat.enc] at ha
 fro w M x j a v ha hr := by
   match j with
   | 0 => simp [Dat.enc, Leaf.av] at ha hr; subst ha hr; exact .i _ _
   | 1 => simp [Dat.enc, Leaf.av] at ha hr; subst ha hr; exact .i _ _
   | j + 2 => simp [Dat.enc] at ha
instance inhSpan : Inhabited Span := ⟨Dat.d0⟩
section
open Go.Shelf
def Tryz.sortSp_ren : Go.Shelf.Ren := ⟨fun | 6 => 66 | 15 => 62 | 14 => 93 | 28 => 91 | 29 => 92 | 20 => 110 | 21 => 111 | 22 => 112 | 23 => 113 | 24 => 114 | 25 => 115 | 26 => 116 | 27 => 117 | 46 => 141 | 47 => 106 | 48 => 107 | 49 => 142 | 50 => 143 | 57 => 153 | n => n, fun | 22 => 65 | 24 => 99 | 25 => 123 | 3 => 3 | 39 => 120 | 0 => 0 | 53 => 149 | 55 => 128 | 4 => 4 | 46 => 142 | 45 => 141 | 50 => 146 | 5 => 5 | 9 => 9 | 66 => 157 | 70 => 161 | 76 => 190 | 77 => 191 | n => n, fun | n => n⟩
theorem Tryz.sortSp : Go.Proofs.SlLaysF0.n6 Tryz.prog Tryz.sortSp_ren := {
 mixed := by kernel_rfl
 f6 := ⟨Tryz.f66.name, by decide, Tryz.func66.trans (congrArg some (by kernel_rfl))⟩
 f14 := ⟨Tryz.f93.name, by decide, Tryz.func93.trans (congrArg some (by kernel_rfl))⟩
 f15 := Tryz.func62.trans (congrArg some (by kernel_rfl))
 f20 := ⟨Tryz.f110.name, by decide, Tryz.func110.trans (congrArg some (by kernel_rfl))⟩
 f21 := ⟨Tryz.f111.name, by decide, Tryz.func111.trans (congrArg some (by kernel_rfl))⟩
 f22 := ⟨Tryz.f112.name, by decide, Tryz.func112.trans (congrArg some (by kernel_rfl))⟩
 f23 := ⟨Tryz.f113.name, by decide, Tryz.func113.trans (congrArg some (by kernel_rfl))⟩
 f24 := ⟨Tryz.f114.name, by decide, Tryz.func114.trans (congrArg some (by kernel_rfl))⟩
 f25 := ⟨Tryz.f115.name, by decide, Tryz.func115.trans (congrArg some (by kernel_rfl))⟩
 f26 := ⟨Tryz.f116.name, by decide, Tryz.func116.trans (congrArg some (by kernel_rfl))⟩
 f27 := ⟨Tryz.f117.name, by decide, Tryz.func117.trans (congrArg some (by kernel_rfl))⟩
 f28 := Tryz.func91.trans (congrArg some (by kernel_rfl))
 f29 := Tryz.func92.trans (congrArg some (by kernel_rfl))
 f46 := ⟨Tryz.f141.name, by decide, Tryz.func141.trans (congrArg some (by kernel_rfl))⟩
 f47 := Tryz.func106.trans (congrArg some (by kernel_rfl))
 f48 := Tryz.func107.trans (congrArg some (by kernel_rfl))
 f49 := ⟨Tryz.f142.name, by decide, Tryz.func142.trans (congrArg some (by kernel_rfl))⟩
 f50 := ⟨Tryz.f143.name, by decide, Tryz.func143.trans (congrArg some (by kernel_rfl))⟩
 f57 := ⟨Tryz.f153.name, by decide, Tryz.func153.trans (congrArg some (by kernel_rfl))⟩
 t0 := Tryz.underlying0
 a0 := Tryz.isAgg0
 z0 := Tryz.sizeOf0
 v0 := Tryz.zeroValue0
 t3 := Tryz.underlying3
 a3 := Tryz.isAgg3
 z3 := Tryz.sizeOf3
 v3 := Tryz.zeroValue3
 t4 := Tryz.underlying4
 a4 := Tryz.isAgg4
 z4 := Tryz.sizeOf4
 v4 := Tryz.zeroValue4
 t5 := Tryz.underlying5
 a5 := Tryz.isAgg5
 z5 := Tryz.sizeOf5
 v5 := Tryz.zeroValue5
 t9 := Tryz.underlying9
 a9 := Tryz.isAgg9
 z9 := Tryz.sizeOf9
 v9 := Tryz.zeroValue9
 t22 := Tryz.underlying65
 a22 := Tryz.isAgg65
 z22 := Tryz.sizeOf65
 v22 := Tryz.zeroValue65
 t25 := Tryz.underlying123
 a25 := Tryz.isAgg123
 z25 := Tryz.sizeOf123
 v25 := Tryz.zeroValue123
 t39 := Tryz.underlying120
 a39 := Tryz.isAgg120
 z39 := Tryz.sizeOf120
 v39 := Tryz.zeroValue120
 t45 := Tryz.underlying141
 a45 := Tryz.isAgg141
 z45 := Tryz.sizeOf141
 v45 := Tryz.zeroValue141
 t46 := Tryz.underlying142
 a46 := Tryz.isAgg142
 z46 := Tryz.sizeOf142
 v46 := Tryz.zeroValue142
 t50 := Tryz.underlying146
 a50 := Tryz.isAgg146
 z50 := Tryz.sizeOf146
 v50 := Tryz.zeroValue146
 t53 := Tryz.underlying149
 a53 := Tryz.isAgg149
 z53 := Tryz.sizeOf149
 v53 := Tryz.zeroValue149
 t55 := Tryz.underlying128
 a55 := Tryz.isAgg128
 z55 := Tryz.sizeOf128
 v55 := Tryz.zeroValue128
 t66 := Tryz.underlying157
 a66 := Tryz.isAgg157
 z66 := Tryz.sizeOf157
 v66 := Tryz.zeroValue157
 t70 := Tryz.underlying161
 a70 := Tryz.isAgg161
 z70 := Tryz.sizeOf161
 v70 := Tryz.zeroValue161
 t76 := Tryz.underlying190
 a76 := Tryz.isAgg190
 z76 := Tryz.sizeOf190
 v76 := Tryz.zeroValue190
 t77 := Tryz.underlying191
 a77 := Tryz.isAgg191
 z77 := Tryz.sizeOf191
 v77 := Tryz.zeroValue191 }
end
section
open Go.Shelf
def Tryz.cmpInt_ren : Go.Shelf.Ren := ⟨fun | 5 => 41 | 7 => 63 | n => n, fun | 22 => 3 | 3 => 3 | 4 => 4 | n => n, fun | n => n⟩
theorem Tryz.cmpInt : Go.Proofs.SlLaysC2.n5 Tryz.prog Tryz.cmpInt_ren := {
 mixed := by kernel_rfl
 f5 := ⟨Tryz.f41.name, by decide, Tryz.func41.trans (congrArg some (by kernel_rfl))⟩
 f7 := ⟨Tryz.f63.name, by decide, Tryz.func63.trans (congrArg some (by kernel_rfl))⟩
 t3 := Tryz.underlying3
 a3 := Tryz.isAgg3
 z3 := Tryz.sizeOf3
 v3 := Tryz.zeroValue3
 t4 := Tryz.underlying4
 a4 := Tryz.isAgg4
 z4 := Tryz.sizeOf4
 v4 := Tryz.zeroValue4
 t22 := Tryz.underlying3
 a22 := Tryz.isAgg3
 z22 := Tryz.sizeOf3
 v22 := Tryz.zeroValue3 }
end
def sortSpan_cf : Span → Span → Int := fun x y => Lib.compareInt x.frm y.frm
set_option maxHeartbeats 1000000 in
theorem sortSpan_clo (x y : Span) (W : World) : Calls Tryz.prog 67 #[.agg (Conc.conc x).toArray, .agg (Conc.conc y).toArray] W fun e w' => e = .returned (.int .i64 (sortSpan_cf x y)) ∧ ∃ q os', w' = grow (W.drewN q) os' := by
 have hcon := fun W' => AnyG.cmp_Compare_int Tryz.cmpInt x.frm y.frm W'
 change ∀ W', Calls Tryz.prog 41 _ _ _ at hcon
 show Calls Tryz.prog 67 #[.agg #[.int .i64 x.frm, .int .i64 x.to], .agg #[.int .i64 y.frm, .int .i64 y.to]] W fun e w' => e = .returned (.int .i64 (Lib.compareInt x.frm y.frm)) ∧ ∃ q os', w' = grow (W.drewN q) os'
 generalize Lib.compareInt x.frm y.frm = r at hcon ⊢
 go_enter Tryz.func67, Tryz.ntmps67
 go_wp2_with (go_at_call 41; refine (hcon _).mono ?_; rintro e w' ⟨rfl, rfl⟩)
 go_ret
 exact ⟨rfl, 0, _, by rw [alloc_eq_grow, alloc_eq_grow, grow_grow]; rfl⟩
theorem sortSpan_lt (x y : Span) : ltOf sortSpan_cf x y = decide (x.frm < y.frm) := by
 unfold ltOf sortSpan_cf Lib.compareInt
 by_cases h1 : x.frm < y.frm
 · simp [h1]
 · by_cases h2 : y.frm < x.frm <;> simp [h1, h2]
theorem sortSpan_swo : SWO (ltOf sortSpan_cf) where
 irrefl x := by rw [sortSpan_lt]; simp
 trans x y z h1 h2 := by rw [sortSpan_lt] at *; simp at *; omega
 ntrans x y z h1 h2 := by rw [sortSpan_lt] at *; simp at *; omega
noncomputable def sortSpan_K : Con := turnCon Span (Sorts sortSpan_cf) (oneFn 67)
theorem sortSpan_ok {A : List AV} {H : Hp} {K : Kont} (h : sortSpan_K A H K) : FnOk Tryz.prog 66 A H K :=
 sortFunc_ok (α := Span) (ρ := Tryz.sortSp_ren) Tryz.sortSp Tryz.isAgg99 Tryz.sizeOf99 sortSpan_cf sortSpan_swo 67 (enters_of Tryz.func67 (by kernel_rfl) rfl) (fun blk size w m os dk hs x y => sortSpan_clo x y _) h

end Go.Proofs.YtnjngpjkhddnfaaGreatDoor
