/- slices.Sort of numbers, by the kit's theorem. -/
import Derived.Test.YtpofgnocliaahaaAbsSortI
import Derived.Test.YtpofgnocliaahaaTy
import Derived.Shelf.Sort.Plain
import Derived.Shelf.Slices.In.SortNone
import Derived.Ground.NamesProg
set_option linter.all false
namespace Go.Proofs.Ytpofgnocliaahaa
open Go Go.Abs

open Go.Shelf Go.RowKit Go.Lib Go.Sort
section
open Go.Shelf
def Try.sortIn_ren : Go.Shelf.Ren := ⟨fun | 189 => 21 | 125 => 25 | 257 => 24 | 128 => 37 | 129 => 38 | 294 => 28 | 295 => 29 | 296 => 30 | 297 => 31 | 298 => 32 | 299 => 33 | 216 => 34 | 300 => 35 | 301 => 36 | 328 => 39 | 329 => 40 | 330 => 41 | 331 => 42 | 332 => 43 | 215 => 44 | 343 => 45 | n => n, fun | 28 => 29 | 3 => 3 | 46 => 46 | 0 => 0 | 51 => 52 | 53 => 55 | 4 => 4 | 183 => 60 | 182 => 59 | 131 => 64 | 5 => 5 | 9 => 9 | 218 => 68 | 222 => 72 | 228 => 74 | 229 => 75 | n => n, fun | n => n⟩
theorem Try.sortIn : Go.Proofs.Lays.n189 Try.prog Try.sortIn_ren := {
  mixed := by kernel_rfl
  f125 := Try.func25.trans (congrArg some (by kernel_rfl))
  f128 := Try.func37.trans (congrArg some (by kernel_rfl))
  f129 := Try.func38.trans (congrArg some (by kernel_rfl))
  f189 := Try.func21.trans (congrArg some (by kernel_rfl))
  f215 := Try.func44.trans (congrArg some (by kernel_rfl))
  f216 := Try.func34.trans (congrArg some (by kernel_rfl))
  f257 := Try.func24.trans (congrArg some (by kernel_rfl))
  f294 := Try.func28.trans (congrArg some (by kernel_rfl))
  f295 := Try.func29.trans (congrArg some (by kernel_rfl))
  f296 := Try.func30.trans (congrArg some (by kernel_rfl))
  f297 := Try.func31.trans (congrArg some (by kernel_rfl))
  f298 := Try.func32.trans (congrArg some (by kernel_rfl))
  f299 := Try.func33.trans (congrArg some (by kernel_rfl))
  f300 := Try.func35.trans (congrArg some (by kernel_rfl))
  f301 := Try.func36.trans (congrArg some (by kernel_rfl))
  f328 := Try.func39.trans (congrArg some (by kernel_rfl))
  f329 := Try.func40.trans (congrArg some (by kernel_rfl))
  f330 := Try.func41.trans (congrArg some (by kernel_rfl))
  f331 := Try.func42.trans (congrArg some (by kernel_rfl))
  f332 := Try.func43.trans (congrArg some (by kernel_rfl))
  f343 := Try.func45.trans (congrArg some (by kernel_rfl))
  t0 := Try.underlying0
  a0 := Try.isAgg0
  z0 := Try.sizeOf0
  v0 := Try.zeroValue0
  t3 := Try.underlying3
  a3 := Try.isAgg3
  z3 := Try.sizeOf3
  v3 := Try.zeroValue3
  t4 := Try.underlying4
  a4 := Try.isAgg4
  z4 := Try.sizeOf4
  v4 := Try.zeroValue4
  t5 := Try.underlying5
  a5 := Try.isAgg5
  z5 := Try.sizeOf5
  v5 := Try.zeroValue5
  t9 := Try.underlying9
  a9 := Try.isAgg9
  z9 := Try.sizeOf9
  v9 := Try.zeroValue9
  t28 := Try.underlying29
  a28 := Try.isAgg29
  z28 := Try.sizeOf29
  v28 := Try.zeroValue29
  t46 := Try.underlying46
  a46 := Try.isAgg46
  z46 := Try.sizeOf46
  v46 := Try.zeroValue46
  t51 := Try.underlying52
  a51 := Try.isAgg52
  z51 := Try.sizeOf52
  v51 := Try.zeroValue52
  t53 := Try.underlying55
  a53 := Try.isAgg55
  z53 := Try.sizeOf55
  v53 := Try.zeroValue55
  t131 := Try.underlying64
  a131 := Try.isAgg64
  z131 := Try.sizeOf64
  v131 := Try.zeroValue64
  t182 := Try.underlying59
  a182 := Try.isAgg59
  z182 := Try.sizeOf59
  v182 := Try.zeroValue59
  t183 := Try.underlying60
  a183 := Try.isAgg60
  z183 := Try.sizeOf60
  v183 := Try.zeroValue60
  t218 := Try.underlying68
  a218 := Try.isAgg68
  z218 := Try.sizeOf68
  v218 := Try.zeroValue68
  t222 := Try.underlying72
  a222 := Try.isAgg72
  z222 := Try.sizeOf72
  v222 := Try.zeroValue72
  t228 := Try.underlying74
  a228 := Try.isAgg74
  z228 := Try.sizeOf74
  v228 := Try.zeroValue74
  t229 := Try.underlying75
  a229 := Try.isAgg75
  z229 := Try.sizeOf75
  v229 := Try.zeroValue75 }
end
noncomputable def sortI_K : Con := turnCon Int (fun d d' => d' = sortL d) noRest
theorem sortI_ok {A : List AV} {H : Hp} {K : Kont} (h : sortI_K A H K) : FnOk Try.prog 21 A H K := sortInt_ok (ρ := Try.sortIn_ren) Try.sortIn h

end Go.Proofs.Ytpofgnocliaahaa
