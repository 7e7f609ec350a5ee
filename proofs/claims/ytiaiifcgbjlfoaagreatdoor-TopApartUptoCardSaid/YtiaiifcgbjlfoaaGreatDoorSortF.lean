/- The program's functions, walked: SortF. -/
import Derived.Test.YtiaiifcgbjlfoaaGreatDoorAbsSort
import Derived.Test.YtiaiifcgbjlfoaaGreatDoorSort
import Derived.Shelf.SlSortCmp.NoneTotal
import Derived.Shelf.SlicesG.Cmp
import Derived.Ground.SlsfProg
import Derived.Ground.SlgcProg
set_option linter.all false
namespace Go.Proofs.YtiaiifcgbjlfoaaGreatDoor
open Go Go.Abs
open Go.Shelf Go.RowKit Go.Lib Go.Sort
instance concSpan:Conc Span where
 conc x:=[.int .i64 x.frm,.int .i64 x.to]
 hlen _:=rfl
 one x v hv:=by simp at hv;rcases hv with rfl|rfl<;>rfl
 to w M x j a v ha hr:=by
  match j with
  |0=>simp[Dat.enc,Leaf.av]at ha;subst ha;cases hr;rfl
  |1=>simp[Dat.enc,Leaf.av]at ha;subst ha;cases hr;rfl
  |j+2=>simp[Dat.enc]at ha
 fro w M x j a v ha hr:=by
  match j with
  |0=>simp[Dat.enc,Leaf.av]at ha hr;subst ha hr;exact .i _ _
  |1=>simp[Dat.enc,Leaf.av]at ha hr;subst ha hr;exact .i _ _
  |j+2=>simp[Dat.enc]at ha
instance inhSpan:Inhabited Span:=⟨Dat.d0⟩
section
open Go.Shelf
def Tryz.sortSp_ren:Go.Shelf.Ren:=⟨fun|6=>65|15=>104|14=>103|28=>139|29=>140|20=>131|21=>132|22=>133|23=>134|24=>135|25=>136|26=>137|27=>138|46=>166|47=>167|48=>168|49=>169|50=>170|57=>195|n=>n,fun|22=>38|24=>108|25=>166|3=>3|39=>176|0=>0|53=>211|55=>214|4=>4|46=>229|45=>228|50=>233|5=>5|9=>9|66=>254|70=>258|76=>278|77=>191|n=>n,fun|n=>n⟩
theorem Tryz.sortSp:Go.Proofs.SlLaysF0.n6 Tryz.prog Tryz.sortSp_ren:={
 mixed:=by kernel_rfl
 f6:=⟨Tryz.f65.name,by decide,Tryz.func65.trans (congrArg some (by kernel_rfl))⟩
 f14:=⟨Tryz.f103.name,by decide,Tryz.func103.trans (congrArg some (by kernel_rfl))⟩
 f15:=Tryz.func104.trans (congrArg some (by kernel_rfl))
 f20:=⟨Tryz.f131.name,by decide,Tryz.func131.trans (congrArg some (by kernel_rfl))⟩
 f21:=⟨Tryz.f132.name,by decide,Tryz.func132.trans (congrArg some (by kernel_rfl))⟩
 f22:=⟨Tryz.f133.name,by decide,Tryz.func133.trans (congrArg some (by kernel_rfl))⟩
 f23:=⟨Tryz.f134.name,by decide,Tryz.func134.trans (congrArg some (by kernel_rfl))⟩
 f24:=⟨Tryz.f135.name,by decide,Tryz.func135.trans (congrArg some (by kernel_rfl))⟩
 f25:=⟨Tryz.f136.name,by decide,Tryz.func136.trans (congrArg some (by kernel_rfl))⟩
 f26:=⟨Tryz.f137.name,by decide,Tryz.func137.trans (congrArg some (by kernel_rfl))⟩
 f27:=⟨Tryz.f138.name,by decide,Tryz.func138.trans (congrArg some (by kernel_rfl))⟩
 f28:=Tryz.func139.trans (congrArg some (by kernel_rfl))
 f29:=Tryz.func140.trans (congrArg some (by kernel_rfl))
 f46:=⟨Tryz.f166.name,by decide,Tryz.func166.trans (congrArg some (by kernel_rfl))⟩
 f47:=Tryz.func167.trans (congrArg some (by kernel_rfl))
 f48:=Tryz.func168.trans (congrArg some (by kernel_rfl))
 f49:=⟨Tryz.f169.name,by decide,Tryz.func169.trans (congrArg some (by kernel_rfl))⟩
 f50:=⟨Tryz.f170.name,by decide,Tryz.func170.trans (congrArg some (by kernel_rfl))⟩
 f57:=⟨Tryz.f195.name,by decide,Tryz.func195.trans (congrArg some (by kernel_rfl))⟩
 t0:=Tryz.underlying0
 a0:=Tryz.isAgg0
 z0:=Tryz.sizeOf0
 v0:=Tryz.zeroValue0
 t3:=Tryz.underlying3
 a3:=Tryz.isAgg3
 z3:=Tryz.sizeOf3
 v3:=Tryz.zeroValue3
 t4:=Tryz.underlying4
 a4:=Tryz.isAgg4
 z4:=Tryz.sizeOf4
 v4:=Tryz.zeroValue4
 t5:=Tryz.underlying5
 a5:=Tryz.isAgg5
 z5:=Tryz.sizeOf5
 v5:=Tryz.zeroValue5
 t9:=Tryz.underlying9
 a9:=Tryz.isAgg9
 z9:=Tryz.sizeOf9
 v9:=Tryz.zeroValue9
 t22:=Tryz.underlying38
 a22:=Tryz.isAgg38
 z22:=Tryz.sizeOf38
 v22:=Tryz.zeroValue38
 t25:=Tryz.underlying166
 a25:=Tryz.isAgg166
 z25:=Tryz.sizeOf166
 v25:=Tryz.zeroValue166
 t39:=Tryz.underlying176
 a39:=Tryz.isAgg176
 z39:=Tryz.sizeOf176
 v39:=Tryz.zeroValue176
 t45:=Tryz.underlying228
 a45:=Tryz.isAgg228
 z45:=Tryz.sizeOf228
 v45:=Tryz.zeroValue228
 t46:=Tryz.underlying229
 a46:=Tryz.isAgg229
 z46:=Tryz.sizeOf229
 v46:=Tryz.zeroValue229
 t50:=Tryz.underlying233
 a50:=Tryz.isAgg233
 z50:=Tryz.sizeOf233
 v50:=Tryz.zeroValue233
 t53:=Tryz.underlying211
 a53:=Tryz.isAgg211
 z53:=Tryz.sizeOf211
 v53:=Tryz.zeroValue211
 t55:=Tryz.underlying214
 a55:=Tryz.isAgg214
 z55:=Tryz.sizeOf214
 v55:=Tryz.zeroValue214
 t66:=Tryz.underlying254
 a66:=Tryz.isAgg254
 z66:=Tryz.sizeOf254
 v66:=Tryz.zeroValue254
 t70:=Tryz.underlying258
 a70:=Tryz.isAgg258
 z70:=Tryz.sizeOf258
 v70:=Tryz.zeroValue258
 t76:=Tryz.underlying278
 a76:=Tryz.isAgg278
 z76:=Tryz.sizeOf278
 v76:=Tryz.zeroValue278
 t77:=Tryz.underlying191
 a77:=Tryz.isAgg191
 z77:=Tryz.sizeOf191
 v77:=Tryz.zeroValue191}
end
section
open Go.Shelf
def Tryz.cmpInt_ren:Go.Shelf.Ren:=⟨fun|5=>67|7=>105|n=>n,fun|22=>3|3=>3|4=>4|n=>n,fun|n=>n⟩
theorem Tryz.cmpInt:Go.Proofs.SlLaysC2.n5 Tryz.prog Tryz.cmpInt_ren:={
 mixed:=by kernel_rfl
 f5:=⟨Tryz.f67.name,by decide,Tryz.func67.trans (congrArg some (by kernel_rfl))⟩
 f7:=⟨Tryz.f105.name,by decide,Tryz.func105.trans (congrArg some (by kernel_rfl))⟩
 t3:=Tryz.underlying3
 a3:=Tryz.isAgg3
 z3:=Tryz.sizeOf3
 v3:=Tryz.zeroValue3
 t4:=Tryz.underlying4
 a4:=Tryz.isAgg4
 z4:=Tryz.sizeOf4
 v4:=Tryz.zeroValue4
 t22:=Tryz.underlying3
 a22:=Tryz.isAgg3
 z22:=Tryz.sizeOf3
 v22:=Tryz.zeroValue3}
end
def qAT:Span→Span→Int:=fun x y=>Lib.compareInt x.frm y.frm
set_option maxHeartbeats 1000000 in
theorem qJA (x y:Span) (W:World):Calls Tryz.prog 66 #[.agg (Conc.conc x).toArray,.agg (Conc.conc y).toArray] W fun e w'=>e= .returned (.int .i64 (qAT x y))∧∃q os',w'=grow (W.drewN q) os':=by
 have hcon:=fun W'=>AnyG.cmp_Compare_int Tryz.cmpInt x.frm y.frm W'
 change ∀W',Calls Tryz.prog 67 _ _ _ at hcon
 show Calls Tryz.prog 66 #[.agg #[.int .i64 x.frm,.int .i64 x.to],.agg #[.int .i64 y.frm,.int .i64 y.to]] W fun e w'=>e= .returned (.int .i64 (Lib.compareInt x.frm y.frm))∧∃q os',w'=grow (W.drewN q) os'
 generalize Lib.compareInt x.frm y.frm=r at hcon ⊢
 go_enter Tryz.func66,Tryz.ntmps66
 go_wp2_with (go_at_call 67;refine(hcon _).mono ?_;rintro e w' ⟨rfl,rfl⟩)
 go_ret
 exact⟨rfl,0,_,by rw[alloc_eq_grow,alloc_eq_grow,grow_grow];rfl⟩
theorem qCG (x y:Span):ltOf qAT x y=decide (x.frm<y.frm):=by
 unfold ltOf qAT Lib.compareInt
 by_cases h1:x.frm<y.frm
 ·simp[h1]
 ·by_cases h2:y.frm<x.frm<;>simp[h1,h2]
theorem qJB:SWO (ltOf qAT) where
 irrefl x:=by rw[qCG];simp
 trans x y z h1 h2:=by rw[qCG]at*;simp at*;omega
 ntrans x y z h1 h2:=by rw[qCG]at*;simp at*;omega
noncomputable def qEQ:Con:=qDJ Span (qOc qAT) (qOd 66)
theorem qGj {A:List AV}{H:Hp}{K:qBm}(h:qEQ A H K):qO Tryz.prog 65 A H K:=
 qGi (α:=Span) (ρ:=Tryz.sortSp_ren) Tryz.sortSp Tryz.isAgg108 Tryz.sizeOf108 qAT qJB 66 (enters_of Tryz.func66 (by kernel_rfl) rfl) (fun blk size w m os dk hs x y=>qJA x y _) h
end Go.Proofs.YtiaiifcgbjlfoaaGreatDoor
