/- The program's functions, walked: SortW. -/
import Derived.Test.YtiaiifcgbjlfoaaGreatDoorSortF
import Derived.Shelf.SlSortCmp.NoneTotal
import Derived.Shelf.SlicesG.Cmp
import Derived.Ground.SlsfProg
import Derived.Ground.SlgcProg
set_option linter.all false
namespace Go.Proofs.YtiaiifcgbjlfoaaGreatDoor
open Go Go.Abs
open Go.Shelf Go.RowKit Go.Lib Go.Sort
instance concWindow:Conc Window where
 conc x:=[.int .i64 x.frm,.int .i64 x.long,.int .i64 x.owner]
 hlen _:=rfl
 one x v hv:=by simp at hv;rcases hv with rfl|rfl|rfl<;>rfl
 to w M x j a v ha hr:=by
  match j with
  |0=>simp[Dat.enc,Leaf.av]at ha;subst ha;cases hr;rfl
  |1=>simp[Dat.enc,Leaf.av]at ha;subst ha;cases hr;rfl
  |2=>simp[Dat.enc,Leaf.av]at ha;subst ha;cases hr;rfl
  |j+3=>simp[Dat.enc]at ha
 fro w M x j a v ha hr:=by
  match j with
  |0=>simp[Dat.enc,Leaf.av]at ha hr;subst ha hr;exact .i _ _
  |1=>simp[Dat.enc,Leaf.av]at ha hr;subst ha hr;exact .i _ _
  |2=>simp[Dat.enc,Leaf.av]at ha hr;subst ha hr;exact .i _ _
  |j+3=>simp[Dat.enc]at ha
instance inhWindow:Inhabited Window:=⟨Dat.d0⟩
section
open Go.Shelf
def Tryz.sortWw_ren:Go.Shelf.Ren:=⟨fun|6=>96|15=>104|14=>125|28=>139|29=>140|20=>157|21=>158|22=>159|23=>160|24=>161|25=>162|26=>163|27=>164|46=>183|47=>167|48=>168|49=>184|50=>185|57=>202|n=>n,fun|22=>22|24=>106|25=>197|3=>3|39=>176|0=>0|53=>211|55=>214|4=>4|46=>229|45=>228|50=>233|5=>5|9=>9|66=>254|70=>258|76=>278|77=>191|n=>n,fun|n=>n⟩
theorem Tryz.sortWw:Go.Proofs.SlLaysF0.n6 Tryz.prog Tryz.sortWw_ren:={
 mixed:=by kernel_rfl
 f6:=⟨Tryz.f96.name,by decide,Tryz.func96.trans (congrArg some (by kernel_rfl))⟩
 f14:=⟨Tryz.f125.name,by decide,Tryz.func125.trans (congrArg some (by kernel_rfl))⟩
 f15:=Tryz.func104.trans (congrArg some (by kernel_rfl))
 f20:=⟨Tryz.f157.name,by decide,Tryz.func157.trans (congrArg some (by kernel_rfl))⟩
 f21:=⟨Tryz.f158.name,by decide,Tryz.func158.trans (congrArg some (by kernel_rfl))⟩
 f22:=⟨Tryz.f159.name,by decide,Tryz.func159.trans (congrArg some (by kernel_rfl))⟩
 f23:=⟨Tryz.f160.name,by decide,Tryz.func160.trans (congrArg some (by kernel_rfl))⟩
 f24:=⟨Tryz.f161.name,by decide,Tryz.func161.trans (congrArg some (by kernel_rfl))⟩
 f25:=⟨Tryz.f162.name,by decide,Tryz.func162.trans (congrArg some (by kernel_rfl))⟩
 f26:=⟨Tryz.f163.name,by decide,Tryz.func163.trans (congrArg some (by kernel_rfl))⟩
 f27:=⟨Tryz.f164.name,by decide,Tryz.func164.trans (congrArg some (by kernel_rfl))⟩
 f28:=Tryz.func139.trans (congrArg some (by kernel_rfl))
 f29:=Tryz.func140.trans (congrArg some (by kernel_rfl))
 f46:=⟨Tryz.f183.name,by decide,Tryz.func183.trans (congrArg some (by kernel_rfl))⟩
 f47:=Tryz.func167.trans (congrArg some (by kernel_rfl))
 f48:=Tryz.func168.trans (congrArg some (by kernel_rfl))
 f49:=⟨Tryz.f184.name,by decide,Tryz.func184.trans (congrArg some (by kernel_rfl))⟩
 f50:=⟨Tryz.f185.name,by decide,Tryz.func185.trans (congrArg some (by kernel_rfl))⟩
 f57:=⟨Tryz.f202.name,by decide,Tryz.func202.trans (congrArg some (by kernel_rfl))⟩
 t0:=Tryz.underlying0
 a0:=Tryz.isAgg0
 z0:=Tryz.sizeOf0
 v0:=Tryz.zeroValue0
 t3:=Tryz.underlying3
 a3:=Tryz.isAgg3
 z3:=Tryz.sizeOf3
 v3:=Tryz.zeroValue3
 t4:=Tryz.underlying4
 a4:=Tryz.isAgg4
 z4:=Tryz.sizeOf4
 v4:=Tryz.zeroValue4
 t5:=Tryz.underlying5
 a5:=Tryz.isAgg5
 z5:=Tryz.sizeOf5
 v5:=Tryz.zeroValue5
 t9:=Tryz.underlying9
 a9:=Tryz.isAgg9
 z9:=Tryz.sizeOf9
 v9:=Tryz.zeroValue9
 t22:=Tryz.underlying22
 a22:=Tryz.isAgg22
 z22:=Tryz.sizeOf22
 v22:=Tryz.zeroValue22
 t25:=Tryz.underlying197
 a25:=Tryz.isAgg197
 z25:=Tryz.sizeOf197
 v25:=Tryz.zeroValue197
 t39:=Tryz.underlying176
 a39:=Tryz.isAgg176
 z39:=Tryz.sizeOf176
 v39:=Tryz.zeroValue176
 t45:=Tryz.underlying228
 a45:=Tryz.isAgg228
 z45:=Tryz.sizeOf228
 v45:=Tryz.zeroValue228
 t46:=Tryz.underlying229
 a46:=Tryz.isAgg229
 z46:=Tryz.sizeOf229
 v46:=Tryz.zeroValue229
 t50:=Tryz.underlying233
 a50:=Tryz.isAgg233
 z50:=Tryz.sizeOf233
 v50:=Tryz.zeroValue233
 t53:=Tryz.underlying211
 a53:=Tryz.isAgg211
 z53:=Tryz.sizeOf211
 v53:=Tryz.zeroValue211
 t55:=Tryz.underlying214
 a55:=Tryz.isAgg214
 z55:=Tryz.sizeOf214
 v55:=Tryz.zeroValue214
 t66:=Tryz.underlying254
 a66:=Tryz.isAgg254
 z66:=Tryz.sizeOf254
 v66:=Tryz.zeroValue254
 t70:=Tryz.underlying258
 a70:=Tryz.isAgg258
 z70:=Tryz.sizeOf258
 v70:=Tryz.zeroValue258
 t76:=Tryz.underlying278
 a76:=Tryz.isAgg278
 z76:=Tryz.sizeOf278
 v76:=Tryz.zeroValue278
 t77:=Tryz.underlying191
 a77:=Tryz.isAgg191
 z77:=Tryz.sizeOf191
 v77:=Tryz.zeroValue191}
end
def qBT:Window→Window→Int:=fun x y=>Lib.compareInt x.frm y.frm
set_option maxHeartbeats 1000000 in
theorem qKE (x y:Window) (W:World):Calls Tryz.prog 97 #[.agg (Conc.conc x).toArray,.agg (Conc.conc y).toArray] W fun e w'=>e= .returned (.int .i64 (qBT x y))∧∃q os',w'=grow (W.drewN q) os':=by
 have hcon:=fun W'=>AnyG.cmp_Compare_int Tryz.cmpInt x.frm y.frm W'
 change ∀W',Calls Tryz.prog 67 _ _ _ at hcon
 show Calls Tryz.prog 97 #[.agg #[.int .i64 x.frm,.int .i64 x.long,.int .i64 x.owner],.agg #[.int .i64 y.frm,.int .i64 y.long,.int .i64 y.owner]] W fun e w'=>e= .returned (.int .i64 (Lib.compareInt x.frm y.frm))∧∃q os',w'=grow (W.drewN q) os'
 generalize Lib.compareInt x.frm y.frm=r at hcon ⊢
 go_enter Tryz.func97,Tryz.ntmps97
 go_wp2_with (go_at_call 67;refine(hcon _).mono ?_;rintro e w' ⟨rfl,rfl⟩)
 go_ret
 exact⟨rfl,0,_,by rw[alloc_eq_grow,alloc_eq_grow,grow_grow];rfl⟩
theorem qER (x y:Window):ltOf qBT x y=decide (x.frm<y.frm):=by
 unfold ltOf qBT Lib.compareInt
 by_cases h1:x.frm<y.frm
 ·simp[h1]
 ·by_cases h2:y.frm<x.frm<;>simp[h1,h2]
theorem qKF:SWO (ltOf qBT) where
 irrefl x:=by rw[qER];simp
 trans x y z h1 h2:=by rw[qER]at*;simp at*;omega
 ntrans x y z h1 h2:=by rw[qER]at*;simp at*;omega
noncomputable def qJC:Con:=qDJ Window (qOc qBT) (qOd 97)
theorem qMO {A:List AV}{H:Hp}{K:qBm}(h:qJC A H K):qO Tryz.prog 96 A H K:=
 qGi (α:=Window) (ρ:=Tryz.sortWw_ren) Tryz.sortWw Tryz.isAgg106 Tryz.sizeOf106 qBT qKF 97 (enters_of Tryz.func97 (by kernel_rfl) rfl) (fun blk size w m os dk hs x y=>qKE x y _) h
end Go.Proofs.YtiaiifcgbjlfoaaGreatDoor
