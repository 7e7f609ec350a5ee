/- slices.Sort of numbers, by the kit's theorem. -/
import Derived.Test.YtiaiifcgbjlfoaaGreatDoorAbsSortI
import Derived.Test.YtiaiifcgbjlfoaaGreatDoorTy
import Derived.Shelf.Sort.Plain
import Derived.Shelf.Slices.In.SortNone
import Derived.Ground.NamesProg
set_option linter.all false
namespace Go.Proofs.YtiaiifcgbjlfoaaGreatDoor
open Go Go.Abs
open Go.Shelf Go.RowKit Go.Lib Go.Sort
section
open Go.Shelf
def Tryz.sortIn_ren:Go.Shelf.Ren:=⟨fun|189=>128|125=>104|257=>165|128=>139|129=>140|294=>186|295=>187|296=>188|297=>189|298=>190|299=>191|216=>192|300=>193|301=>194|328=>203|329=>167|330=>168|331=>204|332=>205|215=>105|343=>206|n=>n,fun|28=>46|3=>3|46=>176|0=>0|51=>211|53=>214|4=>4|183=>229|182=>228|131=>233|5=>5|9=>9|218=>254|222=>258|228=>278|229=>191|n=>n,fun|n=>n⟩
theorem Tryz.sortIn:Go.Proofs.Lays.n189 Tryz.prog Tryz.sortIn_ren:={
 mixed:=by kernel_rfl
 f125:=Tryz.func104.trans (congrArg some (by kernel_rfl))
 f128:=Tryz.func139.trans (congrArg some (by kernel_rfl))
 f129:=Tryz.func140.trans (congrArg some (by kernel_rfl))
 f189:=Tryz.func128.trans (congrArg some (by kernel_rfl))
 f215:=Tryz.func105.trans (congrArg some (by kernel_rfl))
 f216:=Tryz.func192.trans (congrArg some (by kernel_rfl))
 f257:=Tryz.func165.trans (congrArg some (by kernel_rfl))
 f294:=Tryz.func186.trans (congrArg some (by kernel_rfl))
 f295:=Tryz.func187.trans (congrArg some (by kernel_rfl))
 f296:=Tryz.func188.trans (congrArg some (by kernel_rfl))
 f297:=Tryz.func189.trans (congrArg some (by kernel_rfl))
 f298:=Tryz.func190.trans (congrArg some (by kernel_rfl))
 f299:=Tryz.func191.trans (congrArg some (by kernel_rfl))
 f300:=Tryz.func193.trans (congrArg some (by kernel_rfl))
 f301:=Tryz.func194.trans (congrArg some (by kernel_rfl))
 f328:=Tryz.func203.trans (congrArg some (by kernel_rfl))
 f329:=Tryz.func167.trans (congrArg some (by kernel_rfl))
 f330:=Tryz.func168.trans (congrArg some (by kernel_rfl))
 f331:=Tryz.func204.trans (congrArg some (by kernel_rfl))
 f332:=Tryz.func205.trans (congrArg some (by kernel_rfl))
 f343:=Tryz.func206.trans (congrArg some (by kernel_rfl))
 t0:=Tryz.underlying0
 a0:=Tryz.isAgg0
 z0:=Tryz.sizeOf0
 v0:=Tryz.zeroValue0
 t3:=Tryz.underlying3
 a3:=Tryz.isAgg3
 z3:=Tryz.sizeOf3
 v3:=Tryz.zeroValue3
 t4:=Tryz.underlying4
 a4:=Tryz.isAgg4
 z4:=Tryz.sizeOf4
 v4:=Tryz.zeroValue4
 t5:=Tryz.underlying5
 a5:=Tryz.isAgg5
 z5:=Tryz.sizeOf5
 v5:=Tryz.zeroValue5
 t9:=Tryz.underlying9
 a9:=Tryz.isAgg9
 z9:=Tryz.sizeOf9
 v9:=Tryz.zeroValue9
 t28:=Tryz.underlying46
 a28:=Tryz.isAgg46
 z28:=Tryz.sizeOf46
 v28:=Tryz.zeroValue46
 t46:=Tryz.underlying176
 a46:=Tryz.isAgg176
 z46:=Tryz.sizeOf176
 v46:=Tryz.zeroValue176
 t51:=Tryz.underlying211
 a51:=Tryz.isAgg211
 z51:=Tryz.sizeOf211
 v51:=Tryz.zeroValue211
 t53:=Tryz.underlying214
 a53:=Tryz.isAgg214
 z53:=Tryz.sizeOf214
 v53:=Tryz.zeroValue214
 t131:=Tryz.underlying233
 a131:=Tryz.isAgg233
 z131:=Tryz.sizeOf233
 v131:=Tryz.zeroValue233
 t182:=Tryz.underlying228
 a182:=Tryz.isAgg228
 z182:=Tryz.sizeOf228
 v182:=Tryz.zeroValue228
 t183:=Tryz.underlying229
 a183:=Tryz.isAgg229
 z183:=Tryz.sizeOf229
 v183:=Tryz.zeroValue229
 t218:=Tryz.underlying254
 a218:=Tryz.isAgg254
 z218:=Tryz.sizeOf254
 v218:=Tryz.zeroValue254
 t222:=Tryz.underlying258
 a222:=Tryz.isAgg258
 z222:=Tryz.sizeOf258
 v222:=Tryz.zeroValue258
 t228:=Tryz.underlying278
 a228:=Tryz.isAgg278
 z228:=Tryz.sizeOf278
 v228:=Tryz.zeroValue278
 t229:=Tryz.underlying191
 a229:=Tryz.isAgg191
 z229:=Tryz.sizeOf191
 v229:=Tryz.zeroValue191}
end
noncomputable def qOg:Con:=qDJ Int (fun d d'=>d'=qKC d) qLE
theorem qQn {A:List AV}{H:Hp}{K:qBm}(h:qOg A H K):qO Tryz.prog 128 A H K:=qML (ρ:=Tryz.sortIn_ren) Tryz.sortIn h
end Go.Proofs.YtiaiifcgbjlfoaaGreatDoor
