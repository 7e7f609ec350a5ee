/- strconv.ParseInt by the kit's theorems: its number. -/
import Derived.Test.YtiaiifcgbjlfoaaGreatDoorStrs
import Derived.Shelf.Strconv.ErrVarParseInt
import Derived.Ground.NamesProg
set_option linter.all false
namespace Go.Proofs.YtiaiifcgbjlfoaaGreatDoor
open Go Go.Abs
open Go.RowKit
def numV (s:ByteArray):Int:=match Lib.parseIntB 64 s.data.toList with
 | .ok v=>v
 | .range=>Lib.intSat 64 s.data.toList
 |_=>0
section
open Go.Shelf
def Tryz.parseL_ren:Go.Shelf.Ren:=⟨fun|174=>111|247=>148|245=>149|287=>174|279=>175|280=>176|281=>177|282=>178|321=>196|322=>197|316=>198|171=>49|205=>199|243=>85|246=>118|283=>151|284=>152|285=>153|286=>154|129=>140|317=>179|318=>180|319=>181|320=>182|337=>200|338=>201|n=>n,fun|9=>9|3=>3|2=>2|75=>208|85=>209|4=>4|167=>261|5=>5|53=>214|175=>262|46=>176|168=>264|37=>245|0=>0|210=>287|21=>21|127=>292|145=>295|143=>293|171=>243|173=>246|212=>268|51=>211|20=>20|213=>269|232=>296|233=>297|80=>299|n=>n,fun|15=>4|16=>5|17=>1|18=>6|19=>7|n=>n⟩
theorem Tryz.parseL:Go.Proofs.LaysC.n174 Tryz.prog Tryz.parseL_ren:={
 mixed:=by kernel_rfl
 f129:=Tryz.func140.trans (congrArg some (by kernel_rfl))
 f171:=Tryz.func49.trans (congrArg some (by kernel_rfl))
 f174:=Tryz.func111.trans (congrArg some (by kernel_rfl))
 f205:=Tryz.func199.trans (congrArg some (by kernel_rfl))
 f243:=Tryz.func85.trans (congrArg some (by kernel_rfl))
 f245:=Tryz.func149.trans (congrArg some (by kernel_rfl))
 f246:=Tryz.func118.trans (congrArg some (by kernel_rfl))
 f247:=Tryz.func148.trans (congrArg some (by kernel_rfl))
 f279:=Tryz.func175.trans (congrArg some (by kernel_rfl))
 f280:=Tryz.func176.trans (congrArg some (by kernel_rfl))
 f281:=Tryz.func177.trans (congrArg some (by kernel_rfl))
 f282:=Tryz.func178.trans (congrArg some (by kernel_rfl))
 f283:=Tryz.func151.trans (congrArg some (by kernel_rfl))
 f284:=Tryz.func152.trans (congrArg some (by kernel_rfl))
 f285:=Tryz.func153.trans (congrArg some (by kernel_rfl))
 f286:=Tryz.func154.trans (congrArg some (by kernel_rfl))
 f287:=Tryz.func174.trans (congrArg some (by kernel_rfl))
 f316:=Tryz.func198.trans (congrArg some (by kernel_rfl))
 f317:=Tryz.func179.trans (congrArg some (by kernel_rfl))
 f318:=Tryz.func180.trans (congrArg some (by kernel_rfl))
 f319:=Tryz.func181.trans (congrArg some (by kernel_rfl))
 f320:=Tryz.func182.trans (congrArg some (by kernel_rfl))
 f321:=Tryz.func196.trans (congrArg some (by kernel_rfl))
 f322:=Tryz.func197.trans (congrArg some (by kernel_rfl))
 f337:=Tryz.func200.trans (congrArg some (by kernel_rfl))
 f338:=Tryz.func201.trans (congrArg some (by kernel_rfl))
 t0:=Tryz.underlying0
 a0:=Tryz.isAgg0
 z0:=Tryz.sizeOf0
 v0:=Tryz.zeroValue0
 t2:=Tryz.underlying2
 a2:=Tryz.isAgg2
 z2:=Tryz.sizeOf2
 v2:=Tryz.zeroValue2
 t3:=Tryz.underlying3
 a3:=Tryz.isAgg3
 z3:=Tryz.sizeOf3
 v3:=Tryz.zeroValue3
 t4:=Tryz.underlying4
 a4:=Tryz.isAgg4
 z4:=Tryz.sizeOf4
 v4:=Tryz.zeroValue4
 t5:=Tryz.underlying5
 a5:=Tryz.isAgg5
 z5:=Tryz.sizeOf5
 v5:=Tryz.zeroValue5
 t9:=Tryz.underlying9
 a9:=Tryz.isAgg9
 z9:=Tryz.sizeOf9
 v9:=Tryz.zeroValue9
 t20:=Tryz.underlying20
 a20:=Tryz.isAgg20
 z20:=Tryz.sizeOf20
 v20:=Tryz.zeroValue20
 t21:=Tryz.underlying21
 a21:=Tryz.isAgg21
 z21:=Tryz.sizeOf21
 v21:=Tryz.zeroValue21
 t37:=Tryz.underlying245
 a37:=Tryz.isAgg245
 z37:=Tryz.sizeOf245
 v37:=Tryz.zeroValue245
 t46:=Tryz.underlying176
 a46:=Tryz.isAgg176
 z46:=Tryz.sizeOf176
 v46:=Tryz.zeroValue176
 t51:=Tryz.underlying211
 a51:=Tryz.isAgg211
 z51:=Tryz.sizeOf211
 v51:=Tryz.zeroValue211
 t53:=Tryz.underlying214
 a53:=Tryz.isAgg214
 z53:=Tryz.sizeOf214
 v53:=Tryz.zeroValue214
 t75:=Tryz.underlying208
 a75:=Tryz.isAgg208
 z75:=Tryz.sizeOf208
 v75:=Tryz.zeroValue208
 t85:=Tryz.underlying209
 a85:=Tryz.isAgg209
 z85:=Tryz.sizeOf209
 v85:=Tryz.zeroValue209
 t127:=Tryz.underlying292
 a127:=Tryz.isAgg292
 z127:=Tryz.sizeOf292
 v127:=Tryz.zeroValue292
 t143:=Tryz.underlying293
 a143:=Tryz.isAgg293
 z143:=Tryz.sizeOf293
 v143:=Tryz.zeroValue293
 t145:=Tryz.underlying295
 a145:=Tryz.isAgg295
 z145:=Tryz.sizeOf295
 v145:=Tryz.zeroValue295
 t167:=Tryz.underlying261
 a167:=Tryz.isAgg261
 z167:=Tryz.sizeOf261
 v167:=Tryz.zeroValue261
 t168:=Tryz.underlying264
 a168:=Tryz.isAgg264
 z168:=Tryz.sizeOf264
 v168:=Tryz.zeroValue264
 t171:=Tryz.underlying243
 a171:=Tryz.isAgg243
 z171:=Tryz.sizeOf243
 v171:=Tryz.zeroValue243
 t173:=Tryz.underlying246
 a173:=Tryz.isAgg246
 z173:=Tryz.sizeOf246
 v173:=Tryz.zeroValue246
 t175:=Tryz.underlying262
 a175:=Tryz.isAgg262
 z175:=Tryz.sizeOf262
 v175:=Tryz.zeroValue262
 t210:=Tryz.underlying287
 a210:=Tryz.isAgg287
 z210:=Tryz.sizeOf287
 v210:=Tryz.zeroValue287
 t212:=Tryz.underlying268
 a212:=Tryz.isAgg268
 z212:=Tryz.sizeOf268
 v212:=Tryz.zeroValue268
 t213:=Tryz.underlying269
 a213:=Tryz.isAgg269
 z213:=Tryz.sizeOf269
 t232:=Tryz.underlying296
 a232:=Tryz.isAgg296
 z232:=Tryz.sizeOf296
 v232:=Tryz.zeroValue296
 t233:=Tryz.underlying297
 a233:=Tryz.isAgg297
 z233:=Tryz.sizeOf297
 v233:=Tryz.zeroValue297
 g15:=by kernel_rfl
 g16:=by kernel_rfl
 g17:=by kernel_rfl
 g18:=by kernel_rfl
 g19:=by kernel_rfl
 t80:=Tryz.underlying299
 a80:=Tryz.isAgg299
 z80:=Tryz.sizeOf299
 v80:=Tryz.zeroValue299
 i0:=by kernel_rfl
 i2:=by kernel_rfl
 i3:=by kernel_rfl
 i4:=by kernel_rfl
 i5:=by kernel_rfl
 i9:=by kernel_rfl
 i20:=by kernel_rfl
 i21:=by kernel_rfl
 i37:=by kernel_rfl
 i46:=by kernel_rfl
 i51:=by kernel_rfl
 i53:=by kernel_rfl
 i75:=by kernel_rfl
 i80:=by kernel_rfl
 i85:=by kernel_rfl
 i127:=by kernel_rfl
 i143:=by kernel_rfl
 i145:=by kernel_rfl
 i167:=by kernel_rfl
 i168:=by kernel_rfl
 i171:=by kernel_rfl
 i173:=by kernel_rfl
 i175:=by kernel_rfl
 i210:=by kernel_rfl
 i212:=by kernel_rfl
 i232:=by kernel_rfl
 i233:=by kernel_rfl
 m15:=by kernel_rfl
 m16:=by kernel_rfl
 m17:=by kernel_rfl
 m18:=by kernel_rfl
 m19:=by kernel_rfl
 c0:=by kernel_rfl
 c2:=by kernel_rfl
 c3:=by kernel_rfl
 c4:=by kernel_rfl
 c5:=by kernel_rfl
 c9:=by kernel_rfl
 c20:=by kernel_rfl
 c21:=by kernel_rfl
 c37:=by kernel_rfl
 c46:=by kernel_rfl
 c51:=by kernel_rfl
 c53:=by kernel_rfl
 c75:=by kernel_rfl
 c80:=by kernel_rfl
 c85:=by kernel_rfl
 c127:=by kernel_rfl
 c143:=by kernel_rfl
 c145:=by kernel_rfl
 c167:=by kernel_rfl
 c168:=by kernel_rfl
 c171:=by kernel_rfl
 c173:=by kernel_rfl
 c175:=by kernel_rfl
 c210:=by kernel_rfl
 c212:=by kernel_rfl
 c213:=by kernel_rfl
 c232:=by kernel_rfl
 c233:=by kernel_rfl}
end
theorem parse_vc (s:ByteArray) (hp:s.size≤281474976710656):FnOk Tryz.prog 111 [.s fun _=>s,.i .i64 fun _=>10,.i .i64 fun _=>64] [] (outA (.tup [.i .i64 fun _=>numV s,.any]) []):=by
 have fin:outA (.tup [.i .i64 fun _=>numV s,.any]) [] (.tup [.i .i64 fun _=>numV s,.any]) [] []:=by
  cbv
  repeat' first|(refine Stp.mk ?_;cbv)|(refine Gen.mk fun r hr=> ?_;(try simp only[Dat.ok,Dat.dec,Leaf.ok,Leaf.val,Z0,Z1,Z2,Z3,Z4,Z5,Z6,Z7,Z8,Z9,Z10,Z11,Z12,Z13,Z14,Z15,Z16,Z17,Z18,Z19,Z20,Z21,Z22,val_sl,val_nil]at hr);cbv)|exact trivial|rfl|refine Both.mk ?_ ?_|(refine Imp.mk fun h=> ?_;(try dsimp only at h);(try simp only[nc,Int.toNat_natCast,ne_eq,zz]at h);(try simp only[nc]at h))|refine Ob.mk ?_ ?_|refine Chk.mk (by kernel_rfl) ?_|refine Eq'.mk ?_|(refine AllN.mk fun i hi=> ?_;cbv)|(refine AllC.mk fun c hc hcm=> ?_;(try dsimp only at hc);cbv)|(refine AllS.mk fun r hr=> ?_;(try simp only[Dat.ok,Dat.dec,Leaf.ok,Leaf.val,Z0,Z1,Z2,Z3,Z4,Z5,Z6,Z7,Z8,Z9,Z10,Z11,Z12,Z13,Z14,Z15,Z16,Z17,Z18,Z19,Z20,Z21,Z22,val_sl]at hr);cbv)
 refine fnOk_kit fin fun w M β cp vs hd hA=> ?_
 obtain⟨u,v,t,rfl,hu,hv,ht⟩:=repL_3 hA
 rw[rep_s hu,rep_i hv,rep_i ht]
 obtain⟨-,-,⟨t1,p1,h1⟩,⟨t2,p2,h2⟩⟩:=hd.tb
 have R:∀(w':World) (n:Int) (e:Value),numV s=n→RepC w' M (.tup [.i .i64 fun _=>numV s,.any]) (.tuple #[.int .i64 n,e]):=fun w' n e h=>by
  subst h
  refine .tup _ _ rfl fun j x hx=> ?_
  match j,hx with
  |0,hx=>cases hx;exact .i _ _
  |1,hx=>cases hx;exact .any _
 cases h:Lib.parseIntB 64 s.data.toList with
 |ok n=>
  refine(Any.strconv_ParseInt_10_at64_ok Tryz.parseL s (by omega) n h w).mono ?_
  rintro e w' ⟨rfl,hw⟩
  refine⟨_,rfl,R _ _ _ (by unfold numV;rw[h]), ?_⟩
  rcases hw with rfl|⟨t,rfl⟩
  ·exact Below.refl _ _
  ·exact Joins.below_bytesWorld _ _ _ _ (Nat.le_refl _)
 |range=>
  refine(Any.strconv_ParseInt_10_at64_range_var Tryz.parseL s hp h t2 p2 w h2).mono ?_
  rintro e w' ⟨N,rfl,-,-,hb⟩
  exact⟨_,rfl,R _ _ _ (by unfold numV;rw[h]),hb⟩
 |_=>
  refine(Any.strconv_ParseInt_10_at64_syntax_var Tryz.parseL s hp h t1 p1 w h1).mono ?_
  rintro e w' ⟨N,rfl,-,-,hb⟩
  exact⟨_,rfl,R _ _ _ (by unfold numV;rw[h]),hb⟩
def parseC_D:Det:=fun A=>match A with
 |[.s x,.i .i64 b,.i .i64 n]=>some (fun _=>b ()=10∧n ()=64∧(x ()).size≤281474976710656,.tup [.i .i64 fun _=>numV (x ()),.any])
 |_=>none
theorem parseC_ok:PcOk Tryz.prog 111 (detPC parseC_D):=det_okA fun A p r h hp0=>by
 unfold parseC_D at h
 split at h
 ·rename_i x b n
  cases h
  obtain⟨h1,h2,h3⟩:=hp0
  exact⟨rfl,FnOk.pre (A':=[.s fun _=>x (),.i .i64 fun _=>10,.i .i64 fun _=>64]) (parse_vc (x ()) h3) (.mk (.mk rfl) (.mk (.mk (.mk rfl) (.mk h1)) (.mk (.mk (.mk rfl) (.mk h2)) trivial)))⟩
 ·cases h
noncomputable def cNu:FuncId→Con:=fun f=>match f with
 |111=>pureCon (detPC parseC_D)
 |_=>fun _ _ _=>Bad 1001
theorem cNu_ok:ConOk Tryz.prog cNu:=fun f A H K h=>by
 unfold cNu at h
 split at h
 ·exact⟨⟨Tryz.f111,Tryz.func111,by kernel_rfl,by kernel_rfl⟩,pureCon_ok parseC_ok h⟩
 ·cases h
def numC_R (r:Th (Int)):AV:= .i .i64 fun _=>(r ())
def numC_P (s:ByteArray):Prop:=s.size≤281474976710656
def numC_D:Det:=fun A=>match A with
 |[.s s]=>some (fun _=>numC_P (s ()),numC_R fun _=>numV (s ()))
 |_=>none
set_option maxRecDepth 100000 in
set_option maxHeartbeats 4000000 in
theorem numC_vc (s:ByteArray) (hp:numC_P s):FnOk Tryz.prog 75 [.s fun _=>s] [] (outA (numC_R fun _=>numV s) []):=by
 refine fn_ok envOk zl cNu_ok noDraws_ok (keep:=[0,2,3]) Tryz.func75 rfl ?_
 cbv
 repeat' first|(show Stp _;exfalso;first|omega|(exact h ‹_›)|(exact absurd ‹_› h)|(exact Bool.false_ne_true (h.symm.trans (show _=true by assumption))))|(refine Stp.mk ?_;cbv)|(refine Gen.mk fun r hr=> ?_;(try simp only[Dat.ok,Dat.dec,Leaf.ok,Leaf.val,Z0,Z1,Z2,Z3,Z4,Z5,Z6,Z7,Z8,Z9,Z10,Z11,Z12,Z13,Z14,Z15,Z16,Z17,Z18,Z19,Z20,Z21,Z22,val_sl,val_nil]at hr);cbv)|exact trivial|rfl|refine Both.mk ?_ ?_|(refine Imp.mk fun h=> ?_;(try dsimp only at h);(try simp only[nc,Int.toNat_natCast,ne_eq,zz]at h);(try simp only[nc]at h))|refine Ob.mk ?_ ?_|refine Chk.mk (by kernel_rfl) ?_|refine Eq'.mk ?_|(refine AllN.mk fun i hi=> ?_;cbv)|(refine AllC.mk fun c hc hcm=> ?_;(try dsimp only at hc);cbv)|(refine AllS.mk fun r hr=> ?_;(try simp only[Dat.ok,Dat.dec,Leaf.ok,Leaf.val,Z0,Z1,Z2,Z3,Z4,Z5,Z6,Z7,Z8,Z9,Z10,Z11,Z12,Z13,Z14,Z15,Z16,Z17,Z18,Z19,Z20,Z21,Z22,val_sl]at hr);cbv)
 all_goals ((try dsimp only at*);(try simp only[nc,Int.toNat_natCast,ne_eq,zz]at*);(try simp only[nc]at*))
 all_goals first
  |exact⟨trivial,trivial,hp⟩
  |exact⟨rfl,rfl,hp⟩
  |rfl
  |fail
theorem numC_ok:PcOk Tryz.prog 75 (detPC numC_D):=det_okA fun A p r h hp0=>by
 unfold numC_D at h
 split at h
 ·rename_i s
  cases h
  have hp:=hp0
  exact⟨rfl,FnOk.pre (A':=[.s fun _=>s ()]) (numC_vc (s ()) hp) (.mk (.mk rfl) (trivial))⟩
 ·cases h
def rV:ByteArray:=⟨#[114]⟩
def regV (n:Int):ByteArray:=rV++itoaB n
noncomputable def cRe:FuncId→Con:=fun f=>match f with
 |49=>pureCon (detPC itoaC_D)
 |_=>fun _ _ _=>Bad 1001
theorem cRe_ok:ConOk Tryz.prog cRe:=fun f A H K h=>by
 unfold cRe at h
 split at h
 ·exact⟨⟨Tryz.f49,Tryz.func49,by kernel_rfl,by kernel_rfl⟩,pureCon_ok itoaC_ok h⟩
 ·cases h
def regC_R (r:Th (ByteArray)):AV:= .s fun _=>(r ())
def regC_P (n:Int):Prop:= -9223372036854775808≤n∧n≤9223372036854775807
def regC_D:Det:=fun A=>match A with
 |[.i .i64 n]=>some (fun _=>regC_P (n ()),regC_R fun _=>regV (n ()))
 |_=>none
set_option maxRecDepth 100000 in
set_option maxHeartbeats 4000000 in
theorem regC_vc (n:Int) (hp:regC_P n):FnOk Tryz.prog 113 [.i .i64 fun _=>n] [] (outA (regC_R fun _=>regV n) []):=by
 refine fn_ok envOk zl cRe_ok noDraws_ok (keep:=[0,2]) Tryz.func113 rfl ?_
 cbv
 repeat' first|(show Stp _;exfalso;first|omega|(exact h ‹_›)|(exact absurd ‹_› h)|(exact Bool.false_ne_true (h.symm.trans (show _=true by assumption))))|(refine Stp.mk ?_;cbv)|(refine Gen.mk fun r hr=> ?_;(try simp only[Dat.ok,Dat.dec,Leaf.ok,Leaf.val,Z0,Z1,Z2,Z3,Z4,Z5,Z6,Z7,Z8,Z9,Z10,Z11,Z12,Z13,Z14,Z15,Z16,Z17,Z18,Z19,Z20,Z21,Z22,val_sl,val_nil]at hr);cbv)|exact trivial|rfl|refine Both.mk ?_ ?_|(refine Imp.mk fun h=> ?_;(try dsimp only at h);(try simp only[nc,Int.toNat_natCast,ne_eq,zz]at h);(try simp only[nc]at h))|refine Ob.mk ?_ ?_|refine Chk.mk (by kernel_rfl) ?_|refine Eq'.mk ?_|(refine AllN.mk fun i hi=> ?_;cbv)|(refine AllC.mk fun c hc hcm=> ?_;(try dsimp only at hc);cbv)|(refine AllS.mk fun r hr=> ?_;(try simp only[Dat.ok,Dat.dec,Leaf.ok,Leaf.val,Z0,Z1,Z2,Z3,Z4,Z5,Z6,Z7,Z8,Z9,Z10,Z11,Z12,Z13,Z14,Z15,Z16,Z17,Z18,Z19,Z20,Z21,Z22,val_sl]at hr);cbv)
 all_goals ((try dsimp only at*);(try simp only[nc,Int.toNat_natCast,ne_eq,zz]at*);(try simp only[nc]at*))
 all_goals first
  |exact hp
  |rfl
  |(have:=itoaB_size hp
    have e:(⟨#[114]⟩:ByteArray).size=1:=rfl
    rw[e];omega)
  |fail
theorem regC_ok:PcOk Tryz.prog 113 (detPC regC_D):=det_okA fun A p r h hp0=>by
 unfold regC_D at h
 split at h
 ·rename_i n
  cases h
  have hp:=hp0
  exact⟨rfl,FnOk.pre (A':=[.i .i64 fun _=>n ()]) (regC_vc (n ()) hp) (.mk (.mk (.mk rfl) (.mk rfl)) (trivial))⟩
 ·cases h
end Go.Proofs.YtiaiifcgbjlfoaaGreatDoor
