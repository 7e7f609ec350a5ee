/- slices.Sort of numbers, by the kit's theorem. -/
import Derived.Test.YtidingjknijjmaaAbsSortI
import Derived.Test.YtidingjknijjmaaTy
import Derived.Shelf.Sort.Plain
import Derived.Shelf.Slices.In.SortNone
import Derived.Ground.NamesProg
set_option linter.all false
namespace Go.Proofs.Ytidingjknijjmaa
open Go Go.Abs

open Go.Shelf Go.RowKit Go.Lib Go.Sort
section
open Go.Shelf
def Try.sortIn_ren : Go.Shelf.Ren := ⟨fun | 189 => 13 | 125 => 24 | 257 => 23 | 128 => 35 | 129 => 36 | 294 => 26 | 295 => 27 | 296 => 28 | 297 => 29 | 298 => 30 | 299 => 31 | 216 => 32 | 300 => 33 | 301 => 34 | 328 => 37 | 329 => 38 | 330 => 39 | 331 => 40 | 332 => 41 | 215 => 42 | 343 => 43 | n => n, fun | 28 => 22 | 3 => 3 | 46 => 50 | 0 => 0 | 51 => 61 | 53 => 63 | 4 => 4 | 183 => 54 | 182 => 53 | 131 => 58 | 5 => 5 | 9 => 9 | 218 => 64 | 222 => 68 | 228 => 70 | 229 => 71 | n => n, fun | n => n⟩
theorem Try.sortIn : Go.Proofs.Lays.n189 Try.prog Try.sortIn_ren := {
  mixed := by kernel_rfl
  f125 := Try.func24.trans (congrArg some (by kernel_rfl))
  f128 := Try.func35.trans (congrArg some (by kernel_rfl))
  f129 := Try.func36.trans (congrArg some (by kernel_rfl))
  f189 := Try.func13.trans (congrArg some (by kernel_rfl))
  f215 := Try.func42.trans (congrArg some (by kernel_rfl))
  f216 := Try.func32.trans (congrArg some (by kernel_rfl))
  f257 := Try.func23.trans (congrArg some (by kernel_rfl))
  f294 := Try.func26.trans (congrArg some (by kernel_rfl))
  f295 := Try.func27.trans (congrArg some (by kernel_rfl))
  f296 := Try.func28.trans (congrArg some (by kernel_rfl))
  f297 := Try.func29.trans (congrArg some (by kernel_rfl))
  f298 := Try.func30.trans (congrArg some (by kernel_rfl))
  f299 := Try.func31.trans (congrArg some (by kernel_rfl))
  f300 := Try.func33.trans (congrArg some (by kernel_rfl))
  f301 := Try.func34.trans (congrArg some (by kernel_rfl))
  f328 := Try.func37.trans (congrArg some (by kernel_rfl))
  f329 := Try.func38.trans (congrArg some (by kernel_rfl))
  f330 := Try.func39.trans (congrArg some (by kernel_rfl))
  f331 := Try.func40.trans (congrArg some (by kernel_rfl))
  f332 := Try.func41.trans (congrArg some (by kernel_rfl))
  f343 := Try.func43.trans (congrArg some (by kernel_rfl))
  t0 := Try.underlying0
  a0 := Try.isAgg0
  z0 := Try.sizeOf0
  v0 := Try.zeroValue0
  t3 := Try.underlying3
  a3 := Try.isAgg3
  z3 := Try.sizeOf3
  v3 := Try.zeroValue3
  t4 := Try.underlying4
  a4 := Try.isAgg4
  z4 := Try.sizeOf4
  v4 := Try.zeroValue4
  t5 := Try.underlying5
  a5 := Try.isAgg5
  z5 := Try.sizeOf5
  v5 := Try.zeroValue5
  t9 := Try.underlying9
  a9 := Try.isAgg9
  z9 := Try.sizeOf9
  v9 := Try.zeroValue9
  t28 := Try.underlying22
  a28 := Try.isAgg22
  z28 := Try.sizeOf22
  v28 := Try.zeroValue22
  t46 := Try.underlying50
  a46 := Try.isAgg50
  z46 := Try.sizeOf50
  v46 := Try.zeroValue50
  t51 := Try.underlying61
  a51 := Try.isAgg61
  z51 := Try.sizeOf61
  v51 := Try.zeroValue61
  t53 := Try.underlying63
  a53 := Try.isAgg63
  z53 := Try.sizeOf63
  v53 := Try.zeroValue63
  t131 := Try.underlying58
  a131 := Try.isAgg58
  z131 := Try.sizeOf58
  v131 := Try.zeroValue58
  t182 := Try.underlying53
  a182 := Try.isAgg53
  z182 := Try.sizeOf53
  v182 := Try.zeroValue53
  t183 := Try.underlying54
  a183 := Try.isAgg54
  z183 := Try.sizeOf54
  v183 := Try.zeroValue54
  t218 := Try.underlying64
  a218 := Try.isAgg64
  z218 := Try.sizeOf64
  v218 := Try.zeroValue64
  t222 := Try.underlying68
  a222 := Try.isAgg68
  z222 := Try.sizeOf68
  v222 := Try.zeroValue68
  t228 := Try.underlying70
  a228 := Try.isAgg70
  z228 := Try.sizeOf70
  v228 := Try.zeroValue70
  t229 := Try.underlying71
  a229 := Try.isAgg71
  z229 := Try.sizeOf71
  v229 := Try.zeroValue71 }
end
noncomputable def sortI_K : Con := turnCon Int (fun d d' => d' = sortL d) noRest
theorem sortI_ok {A : List AV} {H : Hp} {K : Kont} (h : sortI_K A H K) : FnOk Try.prog 13 A H K := sortInt_ok (ρ := Try.sortIn_ren) Try.sortIn h

end Go.Proofs.Ytidingjknijjmaa
