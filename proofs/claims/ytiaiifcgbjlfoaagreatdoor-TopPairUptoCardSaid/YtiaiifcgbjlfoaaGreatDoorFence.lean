/- The program's functions, walked: Fence. -/
import Derived.Test.YtiaiifcgbjlfoaaGreatDoorTy
set_option linter.all false
namespace Go.Proofs.YtiaiifcgbjlfoaaGreatDoor
open Go Go.Abs
def whoB (n:Int):Bool:=decide (0≤n)&&decide (n≤255)
def epB (n:Int):Bool:=decide (1≤n)&&decide (n≤2147483647)
def chB (f:Fence):Bool:=(f.epoch==0&&f.owner==0)||(epB f.epoch&&whoB f.owner)
def mayV (f:Fence) (w n:Int):Int:=if chB f=true then(if(whoB w&&epB n)=true then 0 else 1)else 4
def claimS (f:Fence) (w n:Int):Fence×Bool×Int:=
 if mayV f w n=0 then(if f.epoch<n then(⟨n,w⟩,true,0)else(f,f.epoch==n&&f.owner==w,0))else(⟨0,0⟩,false,mayV f w n)
def passS (f:Fence) (w n:Int):Bool×Int:=
 if mayV f w n=0 then(f.epoch==n&&f.owner==w,0)else(false,mayV f w n)
def who_R (r:Th (Bool)):AV:= .b fun _=>(r ())
def who_D:Det:=fun A=>match A with
 |[.i .i64 n]=>some (fun _=>True,who_R fun _=>whoB (n ()))
 |_=>none
def ep_R (r:Th (Bool)):AV:= .b fun _=>(r ())
def ep_D:Det:=fun A=>match A with
 |[.i .i64 n]=>some (fun _=>True,ep_R fun _=>epB (n ()))
 |_=>none
def ch_R (r:Th (Int)):AV:= .i .i64 fun _=>(r ())
def ch_S (f:Fence):Int:=if chB f=true then 0 else 4
def ch_D:Det:=fun A=>match A with
 |[.agg f]=>some (fun _=>Dat.ok Fence f,ch_R fun _=>ch_S (Dat.dec f))
 |_=>none
def may_R (r:Th (Int)):AV:= .i .i64 fun _=>(r ())
def may_D:Det:=fun A=>match A with
 |[.agg f,.i .i64 w,.i .i64 n]=>some (fun _=>Dat.ok Fence f,may_R fun _=>mayV (Dat.dec f) (w ()) (n ()))
 |_=>none
def cl_R (r:Th (Fence×Bool×Int)):AV:= .tup [.agg [.i .i64 fun _=>(r ()).1.epoch,.i .i64 fun _=>(r ()).1.owner],.b fun _=>(r ()).2.1,.i .i64 fun _=>(r ()).2.2]
def cl_D:Det:=fun A=>match A with
 |[.agg f,.i .i64 w,.i .i64 n]=>some (fun _=>Dat.ok Fence f,cl_R fun _=>claimS (Dat.dec f) (w ()) (n ()))
 |_=>none
def pa_R (r:Th (Bool×Int)):AV:= .tup [.b fun _=>(r ()).1,.i .i64 fun _=>(r ()).2]
def pa_D:Det:=fun A=>match A with
 |[.agg f,.i .i64 w,.i .i64 n]=>some (fun _=>Dat.ok Fence f,pa_R fun _=>passS (Dat.dec f) (w ()) (n ()))
 |_=>none
set_option maxRecDepth 100000 in
set_option maxHeartbeats 4000000 in
theorem who_vc (n:Int):FnOk Tryz.prog 156 [.i .i64 fun _=>n] [] (outA (who_R fun _=>whoB n) []):=by
 refine fn_ok envOk zl noCon_ok noDraws_ok (keep:=[0,2]) Tryz.func156 rfl ?_
 cbv
 repeat' first|(refine Stp.mk ?_;cbv)|(refine Gen.mk fun r hr=> ?_;(try simp only[Dat.ok,Dat.dec,Leaf.ok,Leaf.val,Z0,Z1,Z2,Z3,Z4,Z5,Z6,Z7,Z8,Z9,Z10,Z11,Z12,Z13,Z14,Z15,Z16,Z17,Z18,Z19,Z20,Z21,Z22,val_sl,val_nil]at hr);cbv)|exact trivial|rfl|refine Both.mk ?_ ?_|(refine Imp.mk fun h=> ?_;(try dsimp only at h);(try simp only[nc,Int.toNat_natCast,ne_eq,zz]at h);(try simp only[nc]at h))|refine Ob.mk ?_ ?_|refine Chk.mk (by kernel_rfl) ?_|refine Eq'.mk ?_|(refine AllN.mk fun i hi=> ?_;cbv)|(refine AllC.mk fun c hc hcm=> ?_;(try dsimp only at hc);cbv)|(refine AllS.mk fun r hr=> ?_;(try simp only[Dat.ok,Dat.dec,Leaf.ok,Leaf.val,Z0,Z1,Z2,Z3,Z4,Z5,Z6,Z7,Z8,Z9,Z10,Z11,Z12,Z13,Z14,Z15,Z16,Z17,Z18,Z19,Z20,Z21,Z22,val_sl]at hr);cbv)
 all_goals simp_all [whoB]
 all_goals try omega
theorem who_ok:PcOk Tryz.prog 156 (detPC who_D):=det_okA fun A p r h hp0=>by
 unfold who_D at h
 split at h
 ·rename_i n
  cases h
  exact⟨rfl,FnOk.pre (A':=[.i .i64 fun _=>n ()]) (who_vc (n ())) (.mk (.mk (.mk rfl) (.mk rfl)) (trivial))⟩
 ·cases h
set_option maxRecDepth 100000 in
set_option maxHeartbeats 4000000 in
theorem ep_vc (n:Int):FnOk Tryz.prog 155 [.i .i64 fun _=>n] [] (outA (ep_R fun _=>epB n) []):=by
 refine fn_ok envOk zl noCon_ok noDraws_ok (keep:=[0,2]) Tryz.func155 rfl ?_
 cbv
 repeat' first|(refine Stp.mk ?_;cbv)|(refine Gen.mk fun r hr=> ?_;(try simp only[Dat.ok,Dat.dec,Leaf.ok,Leaf.val,Z0,Z1,Z2,Z3,Z4,Z5,Z6,Z7,Z8,Z9,Z10,Z11,Z12,Z13,Z14,Z15,Z16,Z17,Z18,Z19,Z20,Z21,Z22,val_sl,val_nil]at hr);cbv)|exact trivial|rfl|refine Both.mk ?_ ?_|(refine Imp.mk fun h=> ?_;(try dsimp only at h);(try simp only[nc,Int.toNat_natCast,ne_eq,zz]at h);(try simp only[nc]at h))|refine Ob.mk ?_ ?_|refine Chk.mk (by kernel_rfl) ?_|refine Eq'.mk ?_|(refine AllN.mk fun i hi=> ?_;cbv)|(refine AllC.mk fun c hc hcm=> ?_;(try dsimp only at hc);cbv)|(refine AllS.mk fun r hr=> ?_;(try simp only[Dat.ok,Dat.dec,Leaf.ok,Leaf.val,Z0,Z1,Z2,Z3,Z4,Z5,Z6,Z7,Z8,Z9,Z10,Z11,Z12,Z13,Z14,Z15,Z16,Z17,Z18,Z19,Z20,Z21,Z22,val_sl]at hr);cbv)
 all_goals simp_all [epB]
 all_goals try omega
theorem ep_ok:PcOk Tryz.prog 155 (detPC ep_D):=det_okA fun A p r h hp0=>by
 unfold ep_D at h
 split at h
 ·rename_i n
  cases h
  exact⟨rfl,FnOk.pre (A':=[.i .i64 fun _=>n ()]) (ep_vc (n ())) (.mk (.mk (.mk rfl) (.mk rfl)) (trivial))⟩
 ·cases h
noncomputable def con1:FuncId→Con:=fun f=>match f with
 |156=>pureCon (detPC who_D)
 |155=>pureCon (detPC ep_D)
 |_=>fun _ _ _=>Bad 1001
theorem con1_ok:ConOk Tryz.prog con1:=fun f A H K h=>by
 unfold con1 at h
 split at h
 ·exact⟨⟨Tryz.f156,Tryz.func156,by kernel_rfl,by kernel_rfl⟩,pureCon_ok who_ok h⟩
 ·exact⟨⟨Tryz.f155,Tryz.func155,by kernel_rfl,by kernel_rfl⟩,pureCon_ok ep_ok h⟩
 ·cases h
set_option maxRecDepth 100000 in
set_option maxHeartbeats 4000000 in
theorem ch_vc (f:Fence):FnOk Tryz.prog 119 [.agg (Dat.enc fun _=>f)] [] (outA (ch_R fun _=>ch_S f) []):=by
 refine fn_ok envOk zl con1_ok noDraws_ok (keep:=[0,1,2,15]) Tryz.func119 rfl ?_
 cbv
 repeat' first|(refine Stp.mk ?_;cbv)|(refine Gen.mk fun r hr=> ?_;(try simp only[Dat.ok,Dat.dec,Leaf.ok,Leaf.val,Z0,Z1,Z2,Z3,Z4,Z5,Z6,Z7,Z8,Z9,Z10,Z11,Z12,Z13,Z14,Z15,Z16,Z17,Z18,Z19,Z20,Z21,Z22,val_sl,val_nil]at hr);cbv)|exact trivial|rfl|refine Both.mk ?_ ?_|(refine Imp.mk fun h=> ?_;(try dsimp only at h);(try simp only[nc,Int.toNat_natCast,ne_eq,zz]at h);(try simp only[nc]at h))|refine Ob.mk ?_ ?_|refine Chk.mk (by kernel_rfl) ?_|refine Eq'.mk ?_|(refine AllN.mk fun i hi=> ?_;cbv)|(refine AllC.mk fun c hc hcm=> ?_;(try dsimp only at hc);cbv)|(refine AllS.mk fun r hr=> ?_;(try simp only[Dat.ok,Dat.dec,Leaf.ok,Leaf.val,Z0,Z1,Z2,Z3,Z4,Z5,Z6,Z7,Z8,Z9,Z10,Z11,Z12,Z13,Z14,Z15,Z16,Z17,Z18,Z19,Z20,Z21,Z22,val_sl]at hr);cbv)
 all_goals simp_all [ch_S,chB]
 all_goals try omega
theorem ch_ok:PcOk Tryz.prog 119 (detPC ch_D):=det_okA fun A p r h hp0=>by
 unfold ch_D at h
 split at h
 ·rename_i f
  cases h
  have g0:=hp0
  exact⟨rfl,FnOk.pre (A':=[.agg (Dat.enc fun _=>(Dat.dec f:Fence))]) (ch_vc (Dat.dec f)) (.mk (Dat.hle _ g0) (trivial))⟩
 ·cases h
noncomputable def con2:FuncId→Con:=fun f=>match f with
 |156=>pureCon (detPC who_D)
 |155=>pureCon (detPC ep_D)
 |119=>pureCon (detPC ch_D)
 |_=>fun _ _ _=>Bad 1001
theorem con2_ok:ConOk Tryz.prog con2:=fun f A H K h=>by
 unfold con2 at h
 split at h
 ·exact⟨⟨Tryz.f156,Tryz.func156,by kernel_rfl,by kernel_rfl⟩,pureCon_ok who_ok h⟩
 ·exact⟨⟨Tryz.f155,Tryz.func155,by kernel_rfl,by kernel_rfl⟩,pureCon_ok ep_ok h⟩
 ·exact⟨⟨Tryz.f119,Tryz.func119,by kernel_rfl,by kernel_rfl⟩,pureCon_ok ch_ok h⟩
 ·cases h
set_option maxRecDepth 100000 in
set_option maxHeartbeats 4000000 in
theorem may_vc (f:Fence) (w:Int) (n:Int):FnOk Tryz.prog 122 [.agg (Dat.enc fun _=>f),.i .i64 fun _=>w,.i .i64 fun _=>n] [] (outA (may_R fun _=>mayV f w n) []):=by
 refine fn_ok envOk zl con2_ok noDraws_ok (keep:=[0,1,2,3,6,7,11,20]) Tryz.func122 rfl ?_
 cbv
 repeat' first|(refine Stp.mk ?_;cbv)|(refine Gen.mk fun r hr=> ?_;(try simp only[Dat.ok,Dat.dec,Leaf.ok,Leaf.val,Z0,Z1,Z2,Z3,Z4,Z5,Z6,Z7,Z8,Z9,Z10,Z11,Z12,Z13,Z14,Z15,Z16,Z17,Z18,Z19,Z20,Z21,Z22,val_sl,val_nil]at hr);cbv)|exact trivial|rfl|refine Both.mk ?_ ?_|(refine Imp.mk fun h=> ?_;(try dsimp only at h);(try simp only[nc,Int.toNat_natCast,ne_eq,zz]at h);(try simp only[nc]at h))|refine Ob.mk ?_ ?_|refine Chk.mk (by kernel_rfl) ?_|refine Eq'.mk ?_|(refine AllN.mk fun i hi=> ?_;cbv)|(refine AllC.mk fun c hc hcm=> ?_;(try dsimp only at hc);cbv)|(refine AllS.mk fun r hr=> ?_;(try simp only[Dat.ok,Dat.dec,Leaf.ok,Leaf.val,Z0,Z1,Z2,Z3,Z4,Z5,Z6,Z7,Z8,Z9,Z10,Z11,Z12,Z13,Z14,Z15,Z16,Z17,Z18,Z19,Z20,Z21,Z22,val_sl]at hr);cbv)
 all_goals simp_all [mayV,ch_S,Dat.ok,Dat.dec,Leaf.ok,Leaf.val,Z0,Z1,Z2,Z3,Z4,Z5,Z6,Z7,Z8,Z9,Z10,Z11,Z12,Z13,Z14,Z15,Z16,Z17,Z18,Z19,Z20,Z21,Z22]
 all_goals try omega
theorem may_ok:PcOk Tryz.prog 122 (detPC may_D):=det_okA fun A p r h hp0=>by
 unfold may_D at h
 split at h
 ·rename_i f w n
  cases h
  have g0:=hp0
  exact⟨rfl,FnOk.pre (A':=[.agg (Dat.enc fun _=>(Dat.dec f:Fence)),.i .i64 fun _=>w (),.i .i64 fun _=>n ()]) (may_vc (Dat.dec f) (w ()) (n ())) (.mk (Dat.hle _ g0) (.mk (.mk (.mk rfl) (.mk rfl)) (.mk (.mk (.mk rfl) (.mk rfl)) (trivial))))⟩
 ·cases h
noncomputable def con3:FuncId→Con:=fun f=>match f with
 |122=>pureCon (detPC may_D)
 |_=>fun _ _ _=>Bad 1001
theorem con3_ok:ConOk Tryz.prog con3:=fun f A H K h=>by
 unfold con3 at h
 split at h
 ·exact⟨⟨Tryz.f122,Tryz.func122,by kernel_rfl,by kernel_rfl⟩,pureCon_ok may_ok h⟩
 ·cases h
set_option maxRecDepth 100000 in
set_option maxHeartbeats 4000000 in
theorem cl_vc (f:Fence) (w:Int) (n:Int):FnOk Tryz.prog 87 [.agg (Dat.enc fun _=>f),.i .i64 fun _=>w,.i .i64 fun _=>n] [] (outA (cl_R fun _=>claimS f w n) []):=by
 refine fn_ok envOk zl con3_ok (draws_ok envOk zl noDet_ok mixed) (keep:=[0,1,2,3,6,7,8,9,10,16,25]) Tryz.func87 rfl ?_
 cbv
 repeat' first|(refine Stp.mk ?_;cbv)|(refine Gen.mk fun r hr=> ?_;(try simp only[Dat.ok,Dat.dec,Leaf.ok,Leaf.val,Z0,Z1,Z2,Z3,Z4,Z5,Z6,Z7,Z8,Z9,Z10,Z11,Z12,Z13,Z14,Z15,Z16,Z17,Z18,Z19,Z20,Z21,Z22,val_sl,val_nil]at hr);cbv)|exact trivial|rfl|refine Both.mk ?_ ?_|(refine Imp.mk fun h=> ?_;(try dsimp only at h);(try simp only[nc,Int.toNat_natCast,ne_eq,zz]at h);(try simp only[nc]at h))|refine Ob.mk ?_ ?_|refine Chk.mk (by kernel_rfl) ?_|refine Eq'.mk ?_|(refine AllN.mk fun i hi=> ?_;cbv)|(refine AllC.mk fun c hc hcm=> ?_;(try dsimp only at hc);cbv)|(refine AllS.mk fun r hr=> ?_;(try simp only[Dat.ok,Dat.dec,Leaf.ok,Leaf.val,Z0,Z1,Z2,Z3,Z4,Z5,Z6,Z7,Z8,Z9,Z10,Z11,Z12,Z13,Z14,Z15,Z16,Z17,Z18,Z19,Z20,Z21,Z22,val_sl]at hr);cbv)
 all_goals simp_all [claimS,Dat.ok,Dat.dec,Leaf.ok,Leaf.val,Z0,Z1,Z2,Z3,Z4,Z5,Z6,Z7,Z8,Z9,Z10,Z11,Z12,Z13,Z14,Z15,Z16,Z17,Z18,Z19,Z20,Z21,Z22]
 all_goals first|done|(split<;>first|rfl|omega|(simp;omega))
theorem cl_ok:PcOk Tryz.prog 87 (detPC cl_D):=det_okA fun A p r h hp0=>by
 unfold cl_D at h
 split at h
 ·rename_i f w n
  cases h
  have g0:=hp0
  exact⟨rfl,FnOk.pre (A':=[.agg (Dat.enc fun _=>(Dat.dec f:Fence)),.i .i64 fun _=>w (),.i .i64 fun _=>n ()]) (cl_vc (Dat.dec f) (w ()) (n ())) (.mk (Dat.hle _ g0) (.mk (.mk (.mk rfl) (.mk rfl)) (.mk (.mk (.mk rfl) (.mk rfl)) (trivial))))⟩
 ·cases h
set_option maxRecDepth 100000 in
set_option maxHeartbeats 4000000 in
theorem pa_vc (f:Fence) (w:Int) (n:Int):FnOk Tryz.prog 116 [.agg (Dat.enc fun _=>f),.i .i64 fun _=>w,.i .i64 fun _=>n] [] (outA (pa_R fun _=>passS f w n) []):=by
 refine fn_ok envOk zl con3_ok (draws_ok envOk zl noDet_ok mixed) (keep:=[0,1,2,3,6,7,8,14]) Tryz.func116 rfl ?_
 cbv
 repeat' first|(refine Stp.mk ?_;cbv)|(refine Gen.mk fun r hr=> ?_;(try simp only[Dat.ok,Dat.dec,Leaf.ok,Leaf.val,Z0,Z1,Z2,Z3,Z4,Z5,Z6,Z7,Z8,Z9,Z10,Z11,Z12,Z13,Z14,Z15,Z16,Z17,Z18,Z19,Z20,Z21,Z22,val_sl,val_nil]at hr);cbv)|exact trivial|rfl|refine Both.mk ?_ ?_|(refine Imp.mk fun h=> ?_;(try dsimp only at h);(try simp only[nc,Int.toNat_natCast,ne_eq,zz]at h);(try simp only[nc]at h))|refine Ob.mk ?_ ?_|refine Chk.mk (by kernel_rfl) ?_|refine Eq'.mk ?_|(refine AllN.mk fun i hi=> ?_;cbv)|(refine AllC.mk fun c hc hcm=> ?_;(try dsimp only at hc);cbv)|(refine AllS.mk fun r hr=> ?_;(try simp only[Dat.ok,Dat.dec,Leaf.ok,Leaf.val,Z0,Z1,Z2,Z3,Z4,Z5,Z6,Z7,Z8,Z9,Z10,Z11,Z12,Z13,Z14,Z15,Z16,Z17,Z18,Z19,Z20,Z21,Z22,val_sl]at hr);cbv)
 all_goals simp_all [passS,Dat.ok,Dat.dec,Leaf.ok,Leaf.val,Z0,Z1,Z2,Z3,Z4,Z5,Z6,Z7,Z8,Z9,Z10,Z11,Z12,Z13,Z14,Z15,Z16,Z17,Z18,Z19,Z20,Z21,Z22]
 all_goals try omega
theorem pa_ok:PcOk Tryz.prog 116 (detPC pa_D):=det_okA fun A p r h hp0=>by
 unfold pa_D at h
 split at h
 ·rename_i f w n
  cases h
  have g0:=hp0
  exact⟨rfl,FnOk.pre (A':=[.agg (Dat.enc fun _=>(Dat.dec f:Fence)),.i .i64 fun _=>w (),.i .i64 fun _=>n ()]) (pa_vc (Dat.dec f) (w ()) (n ())) (.mk (Dat.hle _ g0) (.mk (.mk (.mk rfl) (.mk rfl)) (.mk (.mk (.mk rfl) (.mk rfl)) (trivial))))⟩
 ·cases h
end Go.Proofs.YtiaiifcgbjlfoaaGreatDoor
