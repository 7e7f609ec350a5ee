/- slices.Sort of numbers, by the kit's theorem. -/
import Derived.Test.YtnjngpjkhddnfaaGreatDoorAbsSortI
import Derived.Test.YtnjngpjkhddnfaaGreatDoorTy
import Derived.Shelf.Sort.Plain
import Derived.Shelf.Slices.In.SortNone
import Derived.Ground.NamesProg
set_option linter.all false
namespace Go.Proofs.YtnjngpjkhddnfaaGreatDoor
open Go Go.Abs

open Go.Shelf Go.RowKit Go.Lib Go.Sort
section
open Go.Shelf
def Tryz.sortIn_ren : Go.Shelf.Ren := ⟨fun | 189 => 70 | 125 => 62 | 257 => 94 | 128 => 91 | 129 => 92 | 294 => 118 | 295 => 119 | 296 => 120 | 297 => 121 | 298 => 122 | 299 => 123 | 216 => 124 | 300 => 125 | 301 => 126 | 328 => 144 | 329 => 106 | 330 => 107 | 331 => 145 | 332 => 146 | 215 => 63 | 343 => 154 | n => n, fun | 28 => 105 | 3 => 3 | 46 => 120 | 0 => 0 | 51 => 149 | 53 => 128 | 4 => 4 | 183 => 142 | 182 => 141 | 131 => 146 | 5 => 5 | 9 => 9 | 218 => 157 | 222 => 161 | 228 => 190 | 229 => 191 | n => n, fun | n => n⟩
theorem Tryz.sortIn : Go.Proofs.Lays.n189 Tryz.prog Tryz.sortIn_ren := {
 mixed := by kernel_rfl
 f125 := Tryz.func62.trans (congrArg some (by kernel_rfl))
 f128 := Tryz.func91.trans (congrArg some (by kernel_rfl))
 f129 := Tryz.func92.trans (congrArg some (by kernel_rfl))
 f189 := Tryz.func70.trans (congrArg some (by kernel_rfl))
 f215 := Tryz.func63.trans (congrArg some (by kernel_rfl))
 f216 := Tryz.func124.trans (congrArg some (by kernel_rfl))
 f257 := Tryz.func94.trans (congrArg some (by kernel_rfl))
 f294 := Tryz.func118.trans (congrArg some (by kernel_rfl))
 f295 := Tryz.func119.trans (congrArg some (by kernel_rfl))
 f296 := Tryz.func120.trans (congrArg some (by kernel_rfl))
 f297 := Tryz.func121.trans (congrArg some (by kernel_rfl))
 f298 := Tryz.func122.trans (congrArg some (by kernel_rfl))
 f299 := Tryz.func123.trans (congrArg some (by kernel_rfl))
 f300 := Tryz.func125.trans (congrArg some (by kernel_rfl))
 f301 := Tryz.func126.trans (congrArg some (by kernel_rfl))
 f328 := Tryz.func144.trans (congrArg some (by kernel_rfl))
 f329 := Tryz.func106.trans (congrArg some (by kernel_rfl))
 f330 := Tryz.func107.trans (congrArg some (by kernel_rfl))
 f331 := Tryz.func145.trans (congrArg some (by kernel_rfl))
 f332 := Tryz.func146.trans (congrArg some (by kernel_rfl))
 f343 := Tryz.func154.trans (congrArg some (by kernel_rfl))
 t0 := Tryz.underlying0
 a0 := Tryz.isAgg0
 z0 := Tryz.sizeOf0
 v0 := Tryz.zeroValue0
 t3 := Tryz.underlying3
 a3 := Tryz.isAgg3
 z3 := Tryz.sizeOf3
 v3 := Tryz.zeroValue3
 t4 := Tryz.underlying4
 a4 := Tryz.isAgg4
 z4 := Tryz.sizeOf4
 v4 := Tryz.zeroValue4
 t5 := Tryz.underlying5
 a5 := Tryz.isAgg5
 z5 := Tryz.sizeOf5
 v5 := Tryz.zeroValue5
 t9 := Tryz.underlying9
 a9 := Tryz.isAgg9
 z9 := Tryz.sizeOf9
 v9 := Tryz.zeroValue9
 t28 := Tryz.underlying105
 a28 := Tryz.isAgg105
 z28 := Tryz.sizeOf105
 v28 := Tryz.zeroValue105
 t46 := Tryz.underlying120
 a46 := Tryz.isAgg120
 z46 := Tryz.sizeOf120
 v46 := Tryz.zeroValue120
 t51 := Tryz.underlying149
 a51 := Tryz.isAgg149
 z51 := Tryz.sizeOf149
 v51 := Tryz.zeroValue149
 t53 := Tryz.underlying128
 a53 := Tryz.isAgg128
 z53 := Tryz.sizeOf128
 v53 := Tryz.zeroValue128
 t131 := Tryz.underlying146
 a131 := Tryz.isAgg146
 z131 := Tryz.sizeOf146
 v131 := Tryz.zeroValue146
 t182 := Tryz.underlying141
 a182 := Tryz.isAgg141
 z182 := Tryz.sizeOf141
 v182 := Tryz.zeroValue141
 t183 := Tryz.underlying142
 a183 := Tryz.isAgg142
 z183 := Tryz.sizeOf142
 v183 := Tryz.zeroValue142
 t218 := Tryz.underlying157
 a218 := Tryz.isAgg157
 z218 := Tryz.sizeOf157
 v218 := Tryz.zeroValue157
 t222 := Tryz.underlying161
 a222 := Tryz.isAgg161
 z222 := Tryz.sizeOf161
 v222 := Tryz.zeroValue161
 t228 := Tryz.underlying190
 a228 := Tryz.isAgg190
 z228 := Tryz.sizeOf190
 v228 := Tryz.zeroValue190
 t229 := Tryz.underlying191
 a229 := Tryz.isAgg191
 z229 := Tryz.sizeOf191
 v229 := Tryz.zeroValue191 }
end
noncomputable def sortI_K : Con := turnCon Int (fun d d' => d' = sortL d) noRest
theorem sortI_ok {A : List AV} {H : Hp} {K : Kont} (h : sortI_K A H K) : FnOk Tryz.prog 70 A H K := sortInt_ok (ρ := Tryz.sortIn_ren) Tryz.sortIn h

end Go.Proofs.YtnjngpjkhddnfaaGreatDoor
