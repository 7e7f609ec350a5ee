/- strconv.ParseInt by the kit's theorems: its number. -/
import Derived.Test.YtiaiifcgbjlfoaaGreatDoorTxtP
import Derived.Test.YtiaiifcgbjlfoaaGreatDoorAbsG4
import Derived.Shelf.Strings.Split
import Derived.Shelf.Strings.Search3
import Derived.Shelf.Strings.Cut
import Derived.Shelf.Strings.Prefix
import Derived.Shelf.Strings.OnBuilder
import Derived.Shelf.Strconv.Itoa3
import Derived.Shelf.Strconv.ErrVarParseInt
import Derived.Lib.ItoaLen
import Derived.Lib.SmallJoins
import Derived.Ground.NamesProg
set_option linter.all false
namespace Go.Proofs.YtiaiifcgbjlfoaaGreatDoor
open Go Go.Abs
open Go.RowKit
def qKG (n:Int):ByteArray:=⟨(Lib.itoa n).toArray⟩
theorem qMQ {n:Int}(hp: -9223372036854775808≤n∧n≤9223372036854775807):(qKG n).size≤21:=by
 have:=Lib.itoa_length_le n hp.1 hp.2
 show(Lib.itoa n).toArray.size≤21
 simpa using this
theorem below_drewN {w:World}:∀n,Below w.heap.size w (w.drewN n):=fun n=>⟨rfl,rfl,rfl,Nat.le_refl _,fun _ _=>rfl⟩
section
open Go.Shelf
def Tryz.itoaL_ren:Go.Shelf.Ren:=⟨fun|171=>49|243=>85|246=>118|283=>151|284=>152|285=>153|286=>154|129=>140|317=>179|318=>180|319=>181|320=>182|337=>200|338=>201|n=>n,fun|3=>3|9=>9|2=>2|4=>4|171=>243|0=>0|53=>214|37=>245|5=>5|173=>246|212=>268|51=>211|20=>20|213=>269|46=>176|232=>296|233=>297|n=>n,fun|17=>1|18=>6|19=>7|n=>n⟩
theorem Tryz.itoaL:Go.Proofs.LaysM.n171 Tryz.prog Tryz.itoaL_ren:={
 mixed:=by kernel_rfl
 f129:=Tryz.func140.trans (congrArg some (by kernel_rfl))
 f171:=Tryz.func49.trans (congrArg some (by kernel_rfl))
 f243:=Tryz.func85.trans (congrArg some (by kernel_rfl))
 f246:=Tryz.func118.trans (congrArg some (by kernel_rfl))
 f283:=Tryz.func151.trans (congrArg some (by kernel_rfl))
 f284:=Tryz.func152.trans (congrArg some (by kernel_rfl))
 f285:=Tryz.func153.trans (congrArg some (by kernel_rfl))
 f286:=Tryz.func154.trans (congrArg some (by kernel_rfl))
 f317:=Tryz.func179.trans (congrArg some (by kernel_rfl))
 f318:=Tryz.func180.trans (congrArg some (by kernel_rfl))
 f319:=Tryz.func181.trans (congrArg some (by kernel_rfl))
 f320:=Tryz.func182.trans (congrArg some (by kernel_rfl))
 f337:=Tryz.func200.trans (congrArg some (by kernel_rfl))
 f338:=Tryz.func201.trans (congrArg some (by kernel_rfl))
 t0:=Tryz.underlying0
 a0:=Tryz.isAgg0
 z0:=Tryz.sizeOf0
 v0:=Tryz.zeroValue0
 t2:=Tryz.underlying2
 a2:=Tryz.isAgg2
 z2:=Tryz.sizeOf2
 v2:=Tryz.zeroValue2
 t3:=Tryz.underlying3
 a3:=Tryz.isAgg3
 z3:=Tryz.sizeOf3
 v3:=Tryz.zeroValue3
 t4:=Tryz.underlying4
 a4:=Tryz.isAgg4
 z4:=Tryz.sizeOf4
 v4:=Tryz.zeroValue4
 t5:=Tryz.underlying5
 a5:=Tryz.isAgg5
 z5:=Tryz.sizeOf5
 v5:=Tryz.zeroValue5
 t9:=Tryz.underlying9
 a9:=Tryz.isAgg9
 z9:=Tryz.sizeOf9
 v9:=Tryz.zeroValue9
 t20:=Tryz.underlying20
 a20:=Tryz.isAgg20
 z20:=Tryz.sizeOf20
 v20:=Tryz.zeroValue20
 t37:=Tryz.underlying245
 a37:=Tryz.isAgg245
 z37:=Tryz.sizeOf245
 v37:=Tryz.zeroValue245
 t46:=Tryz.underlying176
 a46:=Tryz.isAgg176
 z46:=Tryz.sizeOf176
 v46:=Tryz.zeroValue176
 t51:=Tryz.underlying211
 a51:=Tryz.isAgg211
 z51:=Tryz.sizeOf211
 v51:=Tryz.zeroValue211
 t53:=Tryz.underlying214
 a53:=Tryz.isAgg214
 z53:=Tryz.sizeOf214
 v53:=Tryz.zeroValue214
 t171:=Tryz.underlying243
 a171:=Tryz.isAgg243
 z171:=Tryz.sizeOf243
 v171:=Tryz.zeroValue243
 t173:=Tryz.underlying246
 a173:=Tryz.isAgg246
 z173:=Tryz.sizeOf246
 v173:=Tryz.zeroValue246
 t212:=Tryz.underlying268
 a212:=Tryz.isAgg268
 z212:=Tryz.sizeOf268
 v212:=Tryz.zeroValue268
 t213:=Tryz.underlying269
 a213:=Tryz.isAgg269
 z213:=Tryz.sizeOf269
 t232:=Tryz.underlying296
 a232:=Tryz.isAgg296
 z232:=Tryz.sizeOf296
 v232:=Tryz.zeroValue296
 t233:=Tryz.underlying297
 a233:=Tryz.isAgg297
 z233:=Tryz.sizeOf297
 v233:=Tryz.zeroValue297
 g17:=by kernel_rfl
 g18:=by kernel_rfl
 g19:=by kernel_rfl
 i0:=by kernel_rfl
 i2:=by kernel_rfl
 i3:=by kernel_rfl
 i4:=by kernel_rfl
 i5:=by kernel_rfl
 i9:=by kernel_rfl
 i20:=by kernel_rfl
 i37:=by kernel_rfl
 i46:=by kernel_rfl
 i51:=by kernel_rfl
 i53:=by kernel_rfl
 i171:=by kernel_rfl
 i173:=by kernel_rfl
 i212:=by kernel_rfl
 i232:=by kernel_rfl
 i233:=by kernel_rfl
 m17:=by kernel_rfl
 m18:=by kernel_rfl
 m19:=by kernel_rfl}
end
def qKH (r:Th (ByteArray)):AV:= .s fun _=>(r ())
def qTf (n:Int):Prop:= -9223372036854775808≤n∧n≤9223372036854775807
def qHR:Det:=fun A=>match A with
 |[.i .i64 n]=>some (fun _=>qTf (n ()),qKH fun _=>qKG (n ()))
 |_=>none
theorem qQt (n:Int) (hp: -9223372036854775808≤n∧n≤9223372036854775807):qO Tryz.prog 49 [.i .i64 fun _=>n] [] (qAf (qKH fun _=>qKG n) []):=by
 have fin:qAf (qKH fun _=>qKG n) [] (.s fun _=>qKG n) [] []:=by
  cbv
  repeat' first|(refine Stp.mk ?_;cbv)|(refine Gen.mk fun r hr=> ?_;(try simp only[Dat.ok,Dat.dec,Leaf.ok,Leaf.val,Z0,Z1,Z2,Z3,Z4,Z5,Z6,Z7,Z8,Z9,Z10,Z11,Z12,Z13,Z14,qA,qB]at hr);cbv)|exact trivial|rfl|refine Both.mk ?_ ?_|(refine Imp.mk fun h=> ?_;(try dsimp only at h);(try simp only[nc,Int.toNat_natCast,ne_eq,zz]at h);(try simp only[nc]at h))|refine Ob.mk ?_ ?_|refine Chk.mk (by kernel_rfl) ?_|refine Eq'.mk ?_|(refine AllN.mk fun i hi=> ?_;cbv)|(refine AllC.mk fun c hc hcm=> ?_;(try dsimp only at hc);cbv)|(refine AllS.mk fun r hr=> ?_;(try simp only[Dat.ok,Dat.dec,Leaf.ok,Leaf.val,Z0,Z1,Z2,Z3,Z4,Z5,Z6,Z7,Z8,Z9,Z10,Z11,Z12,Z13,Z14,qA]at hr);cbv)
 refine qFr fin fun w M β cp vs hd hA=> ?_
 obtain⟨v,rfl,hv⟩:=qUS hA
 rw[qAB hv]
 refine(Any.strconv_Itoa Tryz.itoaL n hp.1 hp.2 w hd.tb.1).mono ?_
 rintro e w' ⟨rfl,k,os,rfl⟩
 exact⟨_,rfl,.s _,⟨rfl,rfl,rfl,by rw[Sort.size_grow];exact Nat.le_add_right _ _,fun j hj=>by
  show(w.heap++os)[j]? =_
  rw[Array.getElem?_append_left hj]⟩⟩
theorem qLH:qBf Tryz.prog 49 (qM qHR):=qS fun A p r h hp0=>by
 unfold qHR at h
 split at h
 ·rename_i n
  cases h
  have hp:=hp0
  exact⟨rfl,qO.pre (A':=[.i .i64 fun _=>n ()]) (qQt (n ()) hp) (.mk (.mk (.mk rfl) (.mk rfl)) (trivial))⟩
 ·cases h
def cutV (s sep:ByteArray):ByteArray×ByteArray×Bool:=(⟨(Lib.cut s.data.toList sep.data.toList).1.toArray⟩,⟨(Lib.cut s.data.toList sep.data.toList).2.1.toArray⟩,(Lib.cut s.data.toList sep.data.toList).2.2)
section
open Go.Shelf
def Tryz.cutL_ren:Go.Shelf.Ren:=⟨fun|145=>40|220=>73|219=>110|217=>144|225=>145|224=>146|267=>147|266=>172|314=>173|n=>n,fun|9=>9|4=>4|59=>122|3=>3|5=>5|46=>176|146=>212|51=>211|n=>n,fun|1=>0|n=>n⟩
theorem Tryz.cutL:Go.Proofs.Lays.n145 Tryz.prog Tryz.cutL_ren:={
 mixed:=by kernel_rfl
 f145:=Tryz.func40.trans (congrArg some (by kernel_rfl))
 f217:=Tryz.func144.trans (congrArg some (by kernel_rfl))
 f219:=Tryz.func110.trans (congrArg some (by kernel_rfl))
 f220:=Tryz.func73.trans (congrArg some (by kernel_rfl))
 f224:=Tryz.func146.trans (congrArg some (by kernel_rfl))
 f225:=Tryz.func145.trans (congrArg some (by kernel_rfl))
 f266:=Tryz.func172.trans (congrArg some (by kernel_rfl))
 f267:=Tryz.func147.trans (congrArg some (by kernel_rfl))
 f314:=Tryz.func173.trans (congrArg some (by kernel_rfl))
 t3:=Tryz.underlying3
 a3:=Tryz.isAgg3
 z3:=Tryz.sizeOf3
 v3:=Tryz.zeroValue3
 t4:=Tryz.underlying4
 a4:=Tryz.isAgg4
 z4:=Tryz.sizeOf4
 v4:=Tryz.zeroValue4
 t5:=Tryz.underlying5
 a5:=Tryz.isAgg5
 z5:=Tryz.sizeOf5
 v5:=Tryz.zeroValue5
 t9:=Tryz.underlying9
 a9:=Tryz.isAgg9
 z9:=Tryz.sizeOf9
 v9:=Tryz.zeroValue9
 t46:=Tryz.underlying176
 a46:=Tryz.isAgg176
 z46:=Tryz.sizeOf176
 v46:=Tryz.zeroValue176
 t51:=Tryz.underlying211
 a51:=Tryz.isAgg211
 z51:=Tryz.sizeOf211
 v51:=Tryz.zeroValue211
 t59:=Tryz.underlying122
 a59:=Tryz.isAgg122
 z59:=Tryz.sizeOf122
 v59:=Tryz.zeroValue122
 t146:=Tryz.underlying212
 a146:=Tryz.isAgg212
 z146:=Tryz.sizeOf212
 v146:=Tryz.zeroValue212
 g1:=by kernel_rfl}
end
def qOp (r:Th (ByteArray×ByteArray×Bool)):AV:= .tup [.s fun _=>(r ()).1,.s fun _=>(r ()).2.1,.b fun _=>(r ()).2.2]
def qV5 (s:ByteArray) (sep:ByteArray):Prop:=s.size<4294967281
def qOq:Det:=fun A=>match A with
 |[.s s,.s sep]=>some (fun _=>qV5 (s ()) (sep ()),qOp fun _=>cutV (s ()) (sep ()))
 |_=>none
theorem qTg (s sep:ByteArray) (hp:s.size<4294967281):qO Tryz.prog 40 [.s fun _=>s,.s fun _=>sep] [] (qAf (qOp fun _=>cutV s sep) []):=by
 have fin:qAf (qOp fun _=>cutV s sep) [] (.tup [.s fun _=>(cutV s sep).1,.s fun _=>(cutV s sep).2.1,.b fun _=>(cutV s sep).2.2]) [] []:=by
  cbv
  repeat' first|(refine Stp.mk ?_;cbv)|(refine Gen.mk fun r hr=> ?_;(try simp only[Dat.ok,Dat.dec,Leaf.ok,Leaf.val,Z0,Z1,Z2,Z3,Z4,Z5,Z6,Z7,Z8,Z9,Z10,Z11,Z12,Z13,Z14,qA,qB]at hr);cbv)|exact trivial|rfl|refine Both.mk ?_ ?_|(refine Imp.mk fun h=> ?_;(try dsimp only at h);(try simp only[nc,Int.toNat_natCast,ne_eq,zz]at h);(try simp only[nc]at h))|refine Ob.mk ?_ ?_|refine Chk.mk (by kernel_rfl) ?_|refine Eq'.mk ?_|(refine AllN.mk fun i hi=> ?_;cbv)|(refine AllC.mk fun c hc hcm=> ?_;(try dsimp only at hc);cbv)|(refine AllS.mk fun r hr=> ?_;(try simp only[Dat.ok,Dat.dec,Leaf.ok,Leaf.val,Z0,Z1,Z2,Z3,Z4,Z5,Z6,Z7,Z8,Z9,Z10,Z11,Z12,Z13,Z14,qA]at hr);cbv)
 refine qFr fin fun w M β cp vs hd hA=> ?_
 obtain⟨u,v,rfl,hu,hv⟩:=qN9 hA
 rw[qBV hu,qBV hv]
 obtain⟨m,hm⟩:=hd.tb.2.1
 refine(Any.strings_Cut Tryz.cutL s sep m w hp hm).mono ?_
 rintro e w' ⟨rfl,n,rfl⟩
 refine⟨_,rfl,.tup _ _ rfl fun j x hx=> ?_,below_drewN n⟩
 match j,hx with
 |0,hx=>cases hx;exact .s _
 |1,hx=>cases hx;exact .s _
 |2,hx=>cases hx;exact .b _
theorem qTh:qBf Tryz.prog 40 (qM qOq):=qS fun A p r h hp0=>by
 unfold qOq at h
 split at h
 ·rename_i s sep
  cases h
  have hp:=hp0
  exact⟨rfl,qO.pre (A':=[.s fun _=>s (),.s fun _=>sep ()]) (qTg (s ()) (sep ()) hp) (.mk (.mk rfl) (.mk (.mk rfl) (trivial)))⟩
 ·cases h
def qMR (s p:ByteArray):ByteArray:=⟨(Lib.trimPrefix s.data.toList p.data.toList).toArray⟩
section
open Go.Shelf
def Tryz.trimL_ren:Go.Shelf.Ren:=⟨fun|101=>76|208=>112|206=>150|n=>n,fun|9=>9|4=>4|3=>3|n=>n,fun|n=>n⟩
theorem Tryz.trimL:Go.Proofs.Lays.n101 Tryz.prog Tryz.trimL_ren:={
 mixed:=by kernel_rfl
 f101:=Tryz.func76.trans (congrArg some (by kernel_rfl))
 f206:=Tryz.func150.trans (congrArg some (by kernel_rfl))
 f208:=Tryz.func112.trans (congrArg some (by kernel_rfl))
 t3:=Tryz.underlying3
 a3:=Tryz.isAgg3
 z3:=Tryz.sizeOf3
 v3:=Tryz.zeroValue3
 t4:=Tryz.underlying4
 a4:=Tryz.isAgg4
 z4:=Tryz.sizeOf4
 v4:=Tryz.zeroValue4
 t9:=Tryz.underlying9
 a9:=Tryz.isAgg9
 z9:=Tryz.sizeOf9
 v9:=Tryz.zeroValue9}
end
def qKI (r:Th (ByteArray)):AV:= .s fun _=>(r ())
def qHS:Det:=fun A=>match A with
 |[.s s,.s p]=>some (fun _=>True,qKI fun _=>qMR (s ()) (p ()))
 |_=>none
theorem qQu (s p:ByteArray):qO Tryz.prog 76 [.s fun _=>s,.s fun _=>p] [] (qAf (qKI fun _=>qMR s p) []):=by
 have fin:qAf (qKI fun _=>qMR s p) [] (.s fun _=>qMR s p) [] []:=by
  cbv
  repeat' first|(refine Stp.mk ?_;cbv)|(refine Gen.mk fun r hr=> ?_;(try simp only[Dat.ok,Dat.dec,Leaf.ok,Leaf.val,Z0,Z1,Z2,Z3,Z4,Z5,Z6,Z7,Z8,Z9,Z10,Z11,Z12,Z13,Z14,qA,qB]at hr);cbv)|exact trivial|rfl|refine Both.mk ?_ ?_|(refine Imp.mk fun h=> ?_;(try dsimp only at h);(try simp only[nc,Int.toNat_natCast,ne_eq,zz]at h);(try simp only[nc]at h))|refine Ob.mk ?_ ?_|refine Chk.mk (by kernel_rfl) ?_|refine Eq'.mk ?_|(refine AllN.mk fun i hi=> ?_;cbv)|(refine AllC.mk fun c hc hcm=> ?_;(try dsimp only at hc);cbv)|(refine AllS.mk fun r hr=> ?_;(try simp only[Dat.ok,Dat.dec,Leaf.ok,Leaf.val,Z0,Z1,Z2,Z3,Z4,Z5,Z6,Z7,Z8,Z9,Z10,Z11,Z12,Z13,Z14,qA]at hr);cbv)
 refine qFr fin fun w M β cp vs hd hA=> ?_
 obtain⟨u,v,rfl,hu,hv⟩:=qN9 hA
 rw[qBV hu,qBV hv]
 refine(Any.strings_TrimPrefix Tryz.trimL s p w).mono ?_
 rintro e w' ⟨rfl,rfl⟩
 exact⟨_,rfl,.s _,Below.refl _ _⟩
theorem qLI:qBf Tryz.prog 76 (qM qHS):=qS fun A p r h hp0=>by
 unfold qHS at h
 split at h
 ·rename_i s p
  cases h
  exact⟨rfl,qO.pre (A':=[.s fun _=>s (),.s fun _=>p ()]) (qQu (s ()) (p ())) (.mk (.mk rfl) (.mk (.mk rfl) (trivial)))⟩
 ·cases h
def splitV (s sep:ByteArray):List ByteArray:=Lib.splitB sep 0 (Lib.countB s sep) s
section
open Go.Shelf
def Tryz.splitL_ren:Go.Shelf.Ren:=⟨fun|146=>39|221=>72|268=>107|138=>108|143=>109|195=>141|197=>142|218=>143|219=>110|260=>171|217=>144|225=>145|224=>146|267=>147|266=>172|314=>173|n=>n,fun|9=>9|31=>63|3=>3|4=>4|0=>0|105=>237|21=>21|5=>5|46=>176|119=>280|139=>283|138=>282|146=>212|51=>211|n=>n,fun|1=>0|3=>2|4=>3|n=>n⟩
theorem Tryz.splitL:Go.Proofs.Lays.n146 Tryz.prog Tryz.splitL_ren:={
 mixed:=by kernel_rfl
 f138:=Tryz.func108.trans (congrArg some (by kernel_rfl))
 f143:=Tryz.func109.trans (congrArg some (by kernel_rfl))
 f146:=Tryz.func39.trans (congrArg some (by kernel_rfl))
 f195:=Tryz.func141.trans (congrArg some (by kernel_rfl))
 f197:=Tryz.func142.trans (congrArg some (by kernel_rfl))
 f217:=Tryz.func144.trans (congrArg some (by kernel_rfl))
 f218:=Tryz.func143.trans (congrArg some (by kernel_rfl))
 f219:=Tryz.func110.trans (congrArg some (by kernel_rfl))
 f221:=Tryz.func72.trans (congrArg some (by kernel_rfl))
 f224:=Tryz.func146.trans (congrArg some (by kernel_rfl))
 f225:=Tryz.func145.trans (congrArg some (by kernel_rfl))
 f260:=Tryz.func171.trans (congrArg some (by kernel_rfl))
 f266:=Tryz.func172.trans (congrArg some (by kernel_rfl))
 f267:=Tryz.func147.trans (congrArg some (by kernel_rfl))
 f268:=Tryz.func107.trans (congrArg some (by kernel_rfl))
 f314:=Tryz.func173.trans (congrArg some (by kernel_rfl))
 t0:=Tryz.underlying0
 a0:=Tryz.isAgg0
 z0:=Tryz.sizeOf0
 v0:=Tryz.zeroValue0
 t3:=Tryz.underlying3
 a3:=Tryz.isAgg3
 z3:=Tryz.sizeOf3
 v3:=Tryz.zeroValue3
 t4:=Tryz.underlying4
 a4:=Tryz.isAgg4
 z4:=Tryz.sizeOf4
 v4:=Tryz.zeroValue4
 t5:=Tryz.underlying5
 a5:=Tryz.isAgg5
 z5:=Tryz.sizeOf5
 v5:=Tryz.zeroValue5
 t9:=Tryz.underlying9
 a9:=Tryz.isAgg9
 z9:=Tryz.sizeOf9
 v9:=Tryz.zeroValue9
 t21:=Tryz.underlying21
 a21:=Tryz.isAgg21
 z21:=Tryz.sizeOf21
 v21:=Tryz.zeroValue21
 t31:=Tryz.underlying63
 a31:=Tryz.isAgg63
 z31:=Tryz.sizeOf63
 v31:=Tryz.zeroValue63
 t46:=Tryz.underlying176
 a46:=Tryz.isAgg176
 z46:=Tryz.sizeOf176
 v46:=Tryz.zeroValue176
 t51:=Tryz.underlying211
 a51:=Tryz.isAgg211
 z51:=Tryz.sizeOf211
 v51:=Tryz.zeroValue211
 t105:=Tryz.underlying237
 a105:=Tryz.isAgg237
 z105:=Tryz.sizeOf237
 v105:=Tryz.zeroValue237
 t119:=Tryz.underlying280
 a119:=Tryz.isAgg280
 z119:=Tryz.sizeOf280
 t138:=Tryz.underlying282
 a138:=Tryz.isAgg282
 z138:=Tryz.sizeOf282
 v138:=Tryz.zeroValue282
 t139:=Tryz.underlying283
 a139:=Tryz.isAgg283
 z139:=Tryz.sizeOf283
 v139:=Tryz.zeroValue283
 t146:=Tryz.underlying212
 a146:=Tryz.isAgg212
 z146:=Tryz.sizeOf212
 v146:=Tryz.zeroValue212
 g1:=by kernel_rfl
 g3:=by kernel_rfl
 g4:=by kernel_rfl}
end
def qHT (r:Th ((List ByteArray))):AV:= .own 0 fun _=>(r ()).length
def qHU (r:Th ((List ByteArray))):Hp:=[qA2 9 fun _=>(r ())]
def qQv (s:ByteArray) (sep:ByteArray):Prop:=s.size<4294967281∧1≤sep.size
def qHV:PC:=fun A K=>match A with
 |[.s s,.s sep]=>Ob (fun _=>qQv (s ()) (sep ())) (Gen (α:=(List ByteArray)) (fun _=>splitV (s ()) (sep ())) fun r=>K (qHT fun _=>r) (qHU fun _=>r))
 |_=>Bad 1002
theorem qOr (s sep:ByteArray) (hp:s.size<4294967281∧1≤sep.size):qO Tryz.prog 39 [.s fun _=>s,.s fun _=>sep] [] (qAf (qHT fun _=>splitV s sep) (qHU fun _=>splitV s sep)):=by
 have fin:qAf (qHT fun _=>splitV s sep) (qHU fun _=>splitV s sep) (.own 0 fun _=>(splitV s sep).length) [qA2 9 fun _=>splitV s sep] []:=by
  cbv
  repeat' first|(refine Stp.mk ?_;cbv)|(refine Gen.mk fun r hr=> ?_;(try simp only[Dat.ok,Dat.dec,Leaf.ok,Leaf.val,Z0,Z1,Z2,Z3,Z4,Z5,Z6,Z7,Z8,Z9,Z10,Z11,Z12,Z13,Z14,qA,qB]at hr);cbv)|exact trivial|rfl|refine Both.mk ?_ ?_|(refine Imp.mk fun h=> ?_;(try dsimp only at h);(try simp only[nc,Int.toNat_natCast,ne_eq,zz]at h);(try simp only[nc]at h))|refine Ob.mk ?_ ?_|refine Chk.mk (by kernel_rfl) ?_|refine Eq'.mk ?_|(refine AllN.mk fun i hi=> ?_;cbv)|(refine AllC.mk fun c hc hcm=> ?_;(try dsimp only at hc);cbv)|(refine AllS.mk fun r hr=> ?_;(try simp only[Dat.ok,Dat.dec,Leaf.ok,Leaf.val,Z0,Z1,Z2,Z3,Z4,Z5,Z6,Z7,Z8,Z9,Z10,Z11,Z12,Z13,Z14,qA]at hr);cbv)
 refine qOa fin fun w M β cp vs hd hA=> ?_
 obtain⟨u,v,rfl,hu,hv⟩:=qN9 hA
 rw[qBV hu,qBV hv]
 obtain⟨m,hm⟩:=hd.tb.2.1
 refine(Any.strings_Split Tryz.splitL (by kernel_rfl) s sep m w hp.1 hm hp.2).mono ?_
 rintro e w' ⟨rfl,rfl⟩
 have e1:Dat.sz ByteArray=1:=rfl
 have hl:(splitV s sep).length=Lib.countB s sep+1:=Lib.splitB_all sep hp.2 0 _ s rfl
 have hb:=Lib.countB_le sep hp.2 s.size s (Nat.le_refl _)
 have hc:∀i,i<(splitV s sep).length→(((splitV s sep).map Value.string).toArray).getD i undef= .string ((splitV s sep).getD i Dat.d0):=fun i hi=>by
  simp[Array.getD,hi,List.getD_eq_getElem?_getD]
 refine⟨w.heap.size,((splitV s sep).map Value.string).toArray,by rw[hl],Nat.le_refl _, ?_,(Below.refl _ _).alloc (Nat.le_refl _) _,by(rw[e1];simp), ?_,fun k hk=> ?_,fun _ _=>rfl,fun M' i j x hi hx=> ?_⟩
 ·show(w.heap.push _)[w.heap.size]? =_
  rw[Array.getElem?_push_size];rfl
 ·show(splitV s sep).length≤maxLen
  unfold maxLen;omega
 ·rw[e1,Nat.mul_one]at hk;rw[hc k hk];rfl
 ·match j,hx with
  |0,hx=>
   cases hx
   rw[e1,show i*1+0=i by omega,hc i hi]
   exact .s _
theorem qOs:qBf Tryz.prog 39 (qHV):=fun A K h=>by
 unfold qHV at h
 split at h
 ·rename_i s sep
  cases h with
  |mk h1 h2=>
   have hp:=h1
   refine qO.pre ?_ (A':=[.s fun _=>s (),.s fun _=>sep ()]) (.mk (.mk rfl) (.mk (.mk rfl) (trivial)))
   exact qO.out (K:=fun r H _=>K r H) (qOr (s ()) (sep ()) hp) rfl h2.out
 ·cases h
end Go.Proofs.YtiaiifcgbjlfoaaGreatDoor

namespace Go.Proofs.YtiaiifcgbjlfoaaGreatDoor
open Go Go.Abs
open Go.RowKit
def qKJ (s:ByteArray):Int:=match Lib.parseIntB 64 s.data.toList with
 | .ok v=>v
 | .range=>Lib.intSat 64 s.data.toList
 |_=>0
section
open Go.Shelf
def Tryz.parseL_ren:Go.Shelf.Ren:=⟨fun|174=>111|247=>148|245=>149|287=>174|279=>175|280=>176|281=>177|282=>178|321=>196|322=>197|316=>198|171=>49|205=>199|243=>85|246=>118|283=>151|284=>152|285=>153|286=>154|129=>140|317=>179|318=>180|319=>181|320=>182|337=>200|338=>201|n=>n,fun|9=>9|3=>3|2=>2|75=>208|85=>209|4=>4|167=>261|5=>5|53=>214|175=>262|46=>176|168=>264|37=>245|0=>0|210=>287|21=>21|127=>292|145=>295|143=>293|171=>243|173=>246|212=>268|51=>211|20=>20|213=>269|232=>296|233=>297|80=>299|n=>n,fun|15=>4|16=>5|17=>1|18=>6|19=>7|n=>n⟩
theorem Tryz.parseL:Go.Proofs.LaysC.n174 Tryz.prog Tryz.parseL_ren:={
 mixed:=by kernel_rfl
 f129:=Tryz.func140.trans (congrArg some (by kernel_rfl))
 f171:=Tryz.func49.trans (congrArg some (by kernel_rfl))
 f174:=Tryz.func111.trans (congrArg some (by kernel_rfl))
 f205:=Tryz.func199.trans (congrArg some (by kernel_rfl))
 f243:=Tryz.func85.trans (congrArg some (by kernel_rfl))
 f245:=Tryz.func149.trans (congrArg some (by kernel_rfl))
 f246:=Tryz.func118.trans (congrArg some (by kernel_rfl))
 f247:=Tryz.func148.trans (congrArg some (by kernel_rfl))
 f279:=Tryz.func175.trans (congrArg some (by kernel_rfl))
 f280:=Tryz.func176.trans (congrArg some (by kernel_rfl))
 f281:=Tryz.func177.trans (congrArg some (by kernel_rfl))
 f282:=Tryz.func178.trans (congrArg some (by kernel_rfl))
 f283:=Tryz.func151.trans (congrArg some (by kernel_rfl))
 f284:=Tryz.func152.trans (congrArg some (by kernel_rfl))
 f285:=Tryz.func153.trans (congrArg some (by kernel_rfl))
 f286:=Tryz.func154.trans (congrArg some (by kernel_rfl))
 f287:=Tryz.func174.trans (congrArg some (by kernel_rfl))
 f316:=Tryz.func198.trans (congrArg some (by kernel_rfl))
 f317:=Tryz.func179.trans (congrArg some (by kernel_rfl))
 f318:=Tryz.func180.trans (congrArg some (by kernel_rfl))
 f319:=Tryz.func181.trans (congrArg some (by kernel_rfl))
 f320:=Tryz.func182.trans (congrArg some (by kernel_rfl))
 f321:=Tryz.func196.trans (congrArg some (by kernel_rfl))
 f322:=Tryz.func197.trans (congrArg some (by kernel_rfl))
 f337:=Tryz.func200.trans (congrArg some (by kernel_rfl))
 f338:=Tryz.func201.trans (congrArg some (by kernel_rfl))
 t0:=Tryz.underlying0
 a0:=Tryz.isAgg0
 z0:=Tryz.sizeOf0
 v0:=Tryz.zeroValue0
 t2:=Tryz.underlying2
 a2:=Tryz.isAgg2
 z2:=Tryz.sizeOf2
 v2:=Tryz.zeroValue2
 t3:=Tryz.underlying3
 a3:=Tryz.isAgg3
 z3:=Tryz.sizeOf3
 v3:=Tryz.zeroValue3
 t4:=Tryz.underlying4
 a4:=Tryz.isAgg4
 z4:=Tryz.sizeOf4
 v4:=Tryz.zeroValue4
 t5:=Tryz.underlying5
 a5:=Tryz.isAgg5
 z5:=Tryz.sizeOf5
 v5:=Tryz.zeroValue5
 t9:=Tryz.underlying9
 a9:=Tryz.isAgg9
 z9:=Tryz.sizeOf9
 v9:=Tryz.zeroValue9
 t20:=Tryz.underlying20
 a20:=Tryz.isAgg20
 z20:=Tryz.sizeOf20
 v20:=Tryz.zeroValue20
 t21:=Tryz.underlying21
 a21:=Tryz.isAgg21
 z21:=Tryz.sizeOf21
 v21:=Tryz.zeroValue21
 t37:=Tryz.underlying245
 a37:=Tryz.isAgg245
 z37:=Tryz.sizeOf245
 v37:=Tryz.zeroValue245
 t46:=Tryz.underlying176
 a46:=Tryz.isAgg176
 z46:=Tryz.sizeOf176
 v46:=Tryz.zeroValue176
 t51:=Tryz.underlying211
 a51:=Tryz.isAgg211
 z51:=Tryz.sizeOf211
 v51:=Tryz.zeroValue211
 t53:=Tryz.underlying214
 a53:=Tryz.isAgg214
 z53:=Tryz.sizeOf214
 v53:=Tryz.zeroValue214
 t75:=Tryz.underlying208
 a75:=Tryz.isAgg208
 z75:=Tryz.sizeOf208
 v75:=Tryz.zeroValue208
 t85:=Tryz.underlying209
 a85:=Tryz.isAgg209
 z85:=Tryz.sizeOf209
 v85:=Tryz.zeroValue209
 t127:=Tryz.underlying292
 a127:=Tryz.isAgg292
 z127:=Tryz.sizeOf292
 v127:=Tryz.zeroValue292
 t143:=Tryz.underlying293
 a143:=Tryz.isAgg293
 z143:=Tryz.sizeOf293
 v143:=Tryz.zeroValue293
 t145:=Tryz.underlying295
 a145:=Tryz.isAgg295
 z145:=Tryz.sizeOf295
 v145:=Tryz.zeroValue295
 t167:=Tryz.underlying261
 a167:=Tryz.isAgg261
 z167:=Tryz.sizeOf261
 v167:=Tryz.zeroValue261
 t168:=Tryz.underlying264
 a168:=Tryz.isAgg264
 z168:=Tryz.sizeOf264
 v168:=Tryz.zeroValue264
 t171:=Tryz.underlying243
 a171:=Tryz.isAgg243
 z171:=Tryz.sizeOf243
 v171:=Tryz.zeroValue243
 t173:=Tryz.underlying246
 a173:=Tryz.isAgg246
 z173:=Tryz.sizeOf246
 v173:=Tryz.zeroValue246
 t175:=Tryz.underlying262
 a175:=Tryz.isAgg262
 z175:=Tryz.sizeOf262
 v175:=Tryz.zeroValue262
 t210:=Tryz.underlying287
 a210:=Tryz.isAgg287
 z210:=Tryz.sizeOf287
 v210:=Tryz.zeroValue287
 t212:=Tryz.underlying268
 a212:=Tryz.isAgg268
 z212:=Tryz.sizeOf268
 v212:=Tryz.zeroValue268
 t213:=Tryz.underlying269
 a213:=Tryz.isAgg269
 z213:=Tryz.sizeOf269
 t232:=Tryz.underlying296
 a232:=Tryz.isAgg296
 z232:=Tryz.sizeOf296
 v232:=Tryz.zeroValue296
 t233:=Tryz.underlying297
 a233:=Tryz.isAgg297
 z233:=Tryz.sizeOf297
 v233:=Tryz.zeroValue297
 g15:=by kernel_rfl
 g16:=by kernel_rfl
 g17:=by kernel_rfl
 g18:=by kernel_rfl
 g19:=by kernel_rfl
 t80:=Tryz.underlying299
 a80:=Tryz.isAgg299
 z80:=Tryz.sizeOf299
 v80:=Tryz.zeroValue299
 i0:=by kernel_rfl
 i2:=by kernel_rfl
 i3:=by kernel_rfl
 i4:=by kernel_rfl
 i5:=by kernel_rfl
 i9:=by kernel_rfl
 i20:=by kernel_rfl
 i21:=by kernel_rfl
 i37:=by kernel_rfl
 i46:=by kernel_rfl
 i51:=by kernel_rfl
 i53:=by kernel_rfl
 i75:=by kernel_rfl
 i80:=by kernel_rfl
 i85:=by kernel_rfl
 i127:=by kernel_rfl
 i143:=by kernel_rfl
 i145:=by kernel_rfl
 i167:=by kernel_rfl
 i168:=by kernel_rfl
 i171:=by kernel_rfl
 i173:=by kernel_rfl
 i175:=by kernel_rfl
 i210:=by kernel_rfl
 i212:=by kernel_rfl
 i232:=by kernel_rfl
 i233:=by kernel_rfl
 m15:=by kernel_rfl
 m16:=by kernel_rfl
 m17:=by kernel_rfl
 m18:=by kernel_rfl
 m19:=by kernel_rfl
 c0:=by kernel_rfl
 c2:=by kernel_rfl
 c3:=by kernel_rfl
 c4:=by kernel_rfl
 c5:=by kernel_rfl
 c9:=by kernel_rfl
 c20:=by kernel_rfl
 c21:=by kernel_rfl
 c37:=by kernel_rfl
 c46:=by kernel_rfl
 c51:=by kernel_rfl
 c53:=by kernel_rfl
 c75:=by kernel_rfl
 c80:=by kernel_rfl
 c85:=by kernel_rfl
 c127:=by kernel_rfl
 c143:=by kernel_rfl
 c145:=by kernel_rfl
 c167:=by kernel_rfl
 c168:=by kernel_rfl
 c171:=by kernel_rfl
 c173:=by kernel_rfl
 c175:=by kernel_rfl
 c210:=by kernel_rfl
 c212:=by kernel_rfl
 c213:=by kernel_rfl
 c232:=by kernel_rfl
 c233:=by kernel_rfl}
end
theorem qQw (s:ByteArray) (hp:s.size≤281474976710656):qO Tryz.prog 111 [.s fun _=>s,.i .i64 fun _=>10,.i .i64 fun _=>64] [] (qAf (.tup [.i .i64 fun _=>qKJ s,.any]) []):=by
 have fin:qAf (.tup [.i .i64 fun _=>qKJ s,.any]) [] (.tup [.i .i64 fun _=>qKJ s,.any]) [] []:=by
  cbv
  repeat' first|(refine Stp.mk ?_;cbv)|(refine Gen.mk fun r hr=> ?_;(try simp only[Dat.ok,Dat.dec,Leaf.ok,Leaf.val,Z0,Z1,Z2,Z3,Z4,Z5,Z6,Z7,Z8,Z9,Z10,Z11,Z12,Z13,Z14,qA,qB]at hr);cbv)|exact trivial|rfl|refine Both.mk ?_ ?_|(refine Imp.mk fun h=> ?_;(try dsimp only at h);(try simp only[nc,Int.toNat_natCast,ne_eq,zz]at h);(try simp only[nc]at h))|refine Ob.mk ?_ ?_|refine Chk.mk (by kernel_rfl) ?_|refine Eq'.mk ?_|(refine AllN.mk fun i hi=> ?_;cbv)|(refine AllC.mk fun c hc hcm=> ?_;(try dsimp only at hc);cbv)|(refine AllS.mk fun r hr=> ?_;(try simp only[Dat.ok,Dat.dec,Leaf.ok,Leaf.val,Z0,Z1,Z2,Z3,Z4,Z5,Z6,Z7,Z8,Z9,Z10,Z11,Z12,Z13,Z14,qA]at hr);cbv)
 refine qFr fin fun w M β cp vs hd hA=> ?_
 obtain⟨u,v,t,rfl,hu,hv,ht⟩:=qUT hA
 rw[qBV hu,qAB hv,qAB ht]
 obtain⟨-,-,⟨t1,p1,h1⟩,⟨t2,p2,h2⟩⟩:=hd.tb
 have R:∀(w':World) (n:Int) (e:Value),qKJ s=n→RepC w' M (.tup [.i .i64 fun _=>qKJ s,.any]) (.tuple #[.int .i64 n,e]):=fun w' n e h=>by
  subst h
  refine .tup _ _ rfl fun j x hx=> ?_
  match j,hx with
  |0,hx=>cases hx;exact .i _ _
  |1,hx=>cases hx;exact .any _
 cases h:Lib.parseIntB 64 s.data.toList with
 |ok n=>
  refine(Any.strconv_ParseInt_10_at64_ok Tryz.parseL s (by omega) n h w).mono ?_
  rintro e w' ⟨rfl,hw⟩
  refine⟨_,rfl,R _ _ _ (by unfold qKJ;rw[h]), ?_⟩
  rcases hw with rfl|⟨t,rfl⟩
  ·exact Below.refl _ _
  ·exact Joins.below_bytesWorld _ _ _ _ (Nat.le_refl _)
 |range=>
  refine(Any.strconv_ParseInt_10_at64_range_var Tryz.parseL s hp h t2 p2 w h2).mono ?_
  rintro e w' ⟨N,rfl,-,-,hb⟩
  exact⟨_,rfl,R _ _ _ (by unfold qKJ;rw[h]),hb⟩
 |_=>
  refine(Any.strconv_ParseInt_10_at64_syntax_var Tryz.parseL s hp h t1 p1 w h1).mono ?_
  rintro e w' ⟨N,rfl,-,-,hb⟩
  exact⟨_,rfl,R _ _ _ (by unfold qKJ;rw[h]),hb⟩
def qHW:Det:=fun A=>match A with
 |[.s x,.i .i64 b,.i .i64 n]=>some (fun _=>b ()=10∧n ()=64∧(x ()).size≤281474976710656,.tup [.i .i64 fun _=>qKJ (x ()),.any])
 |_=>none
theorem qOt:qBf Tryz.prog 111 (qM qHW):=qS fun A p r h hp0=>by
 unfold qHW at h
 split at h
 ·rename_i x b n
  cases h
  obtain⟨h1,h2,h3⟩:=hp0
  exact⟨rfl,qO.pre (A':=[.s fun _=>x (),.i .i64 fun _=>10,.i .i64 fun _=>64]) (qQw (x ()) h3) (.mk (.mk rfl) (.mk (.mk (.mk rfl) (.mk h1)) (.mk (.mk (.mk rfl) (.mk h2)) trivial)))⟩
 ·cases h
noncomputable def cNu:FuncId→Con:=fun f=>match f with
 |111=>qH (qM qHW)
 |_=>fun _ _ _=>Bad 1001
theorem qV6:qY Tryz.prog cNu:=fun f A H K h=>by
 unfold cNu at h
 split at h
 ·exact⟨⟨Tryz.f111,Tryz.func111,by kernel_rfl,by kernel_rfl⟩,qE qOt h⟩
 ·cases h
def qRZ (r:Th (Int)):AV:= .i .i64 fun _=>(r ())
def qR0 (s:ByteArray):Prop:=s.size≤281474976710656
def qLJ:Det:=fun A=>match A with
 |[.s s]=>some (fun _=>qR0 (s ()),qRZ fun _=>qKJ (s ()))
 |_=>none
set_option maxRecDepth 100000 in
set_option maxHeartbeats 4000000 in
theorem qTi (s:ByteArray) (hp:qR0 s):qO Tryz.prog 75 [.s fun _=>s] [] (qAf (qRZ fun _=>qKJ s) []):=by
 refine qAe qI zl qV6 qD (keep:=[0,2,3]) Tryz.func75 rfl ?_
 cbv
 repeat' first|(show Stp _;exfalso;first|omega|(exact h ‹_›)|(exact absurd ‹_› h)|(exact Bool.false_ne_true (h.symm.trans (show _=true by assumption))))|(refine Stp.mk ?_;cbv)|(refine Gen.mk fun r hr=> ?_;(try simp only[Dat.ok,Dat.dec,Leaf.ok,Leaf.val,Z0,Z1,Z2,Z3,Z4,Z5,Z6,Z7,Z8,Z9,Z10,Z11,Z12,Z13,Z14,qA,qB]at hr);cbv)|exact trivial|rfl|refine Both.mk ?_ ?_|(refine Imp.mk fun h=> ?_;(try dsimp only at h);(try simp only[nc,Int.toNat_natCast,ne_eq,zz]at h);(try simp only[nc]at h))|refine Ob.mk ?_ ?_|refine Chk.mk (by kernel_rfl) ?_|refine Eq'.mk ?_|(refine AllN.mk fun i hi=> ?_;cbv)|(refine AllC.mk fun c hc hcm=> ?_;(try dsimp only at hc);cbv)|(refine AllS.mk fun r hr=> ?_;(try simp only[Dat.ok,Dat.dec,Leaf.ok,Leaf.val,Z0,Z1,Z2,Z3,Z4,Z5,Z6,Z7,Z8,Z9,Z10,Z11,Z12,Z13,Z14,qA]at hr);cbv)
 all_goals ((try dsimp only at*);(try simp only[nc,Int.toNat_natCast,ne_eq,zz]at*);(try simp only[nc]at*))
 all_goals first
  |exact⟨trivial,trivial,hp⟩
  |exact⟨rfl,rfl,hp⟩
  |rfl
  |fail
theorem qOu:qBf Tryz.prog 75 (qM qLJ):=qS fun A p r h hp0=>by
 unfold qLJ at h
 split at h
 ·rename_i s
  cases h
  have hp:=hp0
  exact⟨rfl,qO.pre (A':=[.s fun _=>s ()]) (qTi (s ()) hp) (.mk (.mk rfl) (trivial))⟩
 ·cases h
def rV:ByteArray:=⟨#[114]⟩
def qXN (n:Int):ByteArray:=rV++qKG n
noncomputable def cRe:FuncId→Con:=fun f=>match f with
 |49=>qH (qM qHR)
 |_=>fun _ _ _=>Bad 1001
theorem qV7:qY Tryz.prog cRe:=fun f A H K h=>by
 unfold cRe at h
 split at h
 ·exact⟨⟨Tryz.f49,Tryz.func49,by kernel_rfl,by kernel_rfl⟩,qE qLH h⟩
 ·cases h
def qR1 (r:Th (ByteArray)):AV:= .s fun _=>(r ())
def qR2 (n:Int):Prop:= -9223372036854775808≤n∧n≤9223372036854775807
def qOv:Det:=fun A=>match A with
 |[.i .i64 n]=>some (fun _=>qR2 (n ()),qR1 fun _=>qXN (n ()))
 |_=>none
set_option maxRecDepth 100000 in
set_option maxHeartbeats 4000000 in
theorem qTj (n:Int) (hp:qR2 n):qO Tryz.prog 113 [.i .i64 fun _=>n] [] (qAf (qR1 fun _=>qXN n) []):=by
 refine qAe qI zl qV7 qD (keep:=[0,2]) Tryz.func113 rfl ?_
 cbv
 repeat' first|(show Stp _;exfalso;first|omega|(exact h ‹_›)|(exact absurd ‹_› h)|(exact Bool.false_ne_true (h.symm.trans (show _=true by assumption))))|(refine Stp.mk ?_;cbv)|(refine Gen.mk fun r hr=> ?_;(try simp only[Dat.ok,Dat.dec,Leaf.ok,Leaf.val,Z0,Z1,Z2,Z3,Z4,Z5,Z6,Z7,Z8,Z9,Z10,Z11,Z12,Z13,Z14,qA,qB]at hr);cbv)|exact trivial|rfl|refine Both.mk ?_ ?_|(refine Imp.mk fun h=> ?_;(try dsimp only at h);(try simp only[nc,Int.toNat_natCast,ne_eq,zz]at h);(try simp only[nc]at h))|refine Ob.mk ?_ ?_|refine Chk.mk (by kernel_rfl) ?_|refine Eq'.mk ?_|(refine AllN.mk fun i hi=> ?_;cbv)|(refine AllC.mk fun c hc hcm=> ?_;(try dsimp only at hc);cbv)|(refine AllS.mk fun r hr=> ?_;(try simp only[Dat.ok,Dat.dec,Leaf.ok,Leaf.val,Z0,Z1,Z2,Z3,Z4,Z5,Z6,Z7,Z8,Z9,Z10,Z11,Z12,Z13,Z14,qA]at hr);cbv)
 all_goals ((try dsimp only at*);(try simp only[nc,Int.toNat_natCast,ne_eq,zz]at*);(try simp only[nc]at*))
 all_goals first
  |exact hp
  |rfl
  |(have:=qMQ hp
    have e:(⟨#[114]⟩:ByteArray).size=1:=rfl
    rw[e];omega)
  |fail
theorem qTk:qBf Tryz.prog 113 (qM qOv):=qS fun A p r h hp0=>by
 unfold qOv at h
 split at h
 ·rename_i n
  cases h
  have hp:=hp0
  exact⟨rfl,qO.pre (A':=[.i .i64 fun _=>n ()]) (qTj (n ()) hp) (.mk (.mk (.mk rfl) (.mk rfl)) (trivial))⟩
 ·cases h
end Go.Proofs.YtiaiifcgbjlfoaaGreatDoor
