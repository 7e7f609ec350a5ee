/- conf.Judge of one plan, walked: the table. -/
import Derived.Test.YtiaiifcgbjlfoaaGreatDoorJudL
import Derived.Test.YtiaiifcgbjlfoaaGreatDoorSortW
set_option linter.all false
namespace Go.Proofs.YtiaiifcgbjlfoaaGreatDoor
open Go Go.Abs
def tL:Table:=⟨10,[⟨0,5,2⟩]⟩
noncomputable def cT1:FuncId→Con:=fun f=>match f with
 |63=>inlCon E noCon noDraws [0,2] Tryz.f63
 |64=>pureCon clSp_C
 |65=>sortSpan_K
 |_=>fun _ _ _=>Bad 1001
theorem cT1_ok:ConOk Tryz.prog cT1:=fun f A H K h=>by
 unfold cT1 at h
 split at h
 ·exact⟨⟨Tryz.f63,Tryz.func63,by kernel_rfl,by kernel_rfl⟩,inl_ok envOk zl noCon_ok noDraws_ok Tryz.func63 h⟩
 ·exact⟨⟨Tryz.f64,Tryz.func64,by kernel_rfl,by kernel_rfl⟩,pureCon_ok clSp_ok h⟩
 ·exact⟨⟨Tryz.f65,Tryz.func65,by kernel_rfl,by kernel_rfl⟩,sortSpan_ok h⟩
 ·cases h
noncomputable def cT2:FuncId→Con:=fun f=>match f with
 |26=>inlCon E noCon noDraws [0,2] Tryz.f26
 |62=>inlCon E noCon noDraws [0,2] Tryz.f62
 |_=>fun _ _ _=>Bad 1001
theorem cT2_ok:ConOk Tryz.prog cT2:=fun f A H K h=>by
 unfold cT2 at h
 split at h
 ·exact⟨⟨Tryz.f26,Tryz.func26,by kernel_rfl,by kernel_rfl⟩,inl_ok envOk zl noCon_ok noDraws_ok Tryz.func26 h⟩
 ·exact⟨⟨Tryz.f62,Tryz.func62,by kernel_rfl,by kernel_rfl⟩,inl_ok envOk zl noCon_ok noDraws_ok Tryz.func62 h⟩
 ·cases h
noncomputable def cT3:FuncId→Con:=fun f=>match f with
 |25=>inlCon E cT2 noDraws [0,1,2,3,5,9,13,15,16,17,18,52] Tryz.f25
 |26=>inlCon E noCon noDraws [0,2] Tryz.f26
 |27=>inlCon E cT1 (draws E dEm) [0,1,4,5,6,8,9,12,16,24,25,26,27,45,57,63] Tryz.f27
 |_=>fun _ _ _=>Bad 1001
theorem cT3_ok:ConOk Tryz.prog cT3:=fun f A H K h=>by
 unfold cT3 at h
 split at h
 ·exact⟨⟨Tryz.f25,Tryz.func25,by kernel_rfl,by kernel_rfl⟩,inl_ok envOk zl cT2_ok noDraws_ok Tryz.func25 h⟩
 ·exact⟨⟨Tryz.f26,Tryz.func26,by kernel_rfl,by kernel_rfl⟩,inl_ok envOk zl noCon_ok noDraws_ok Tryz.func26 h⟩
 ·exact⟨⟨Tryz.f27,Tryz.func27,by kernel_rfl,by kernel_rfl⟩,inl_ok envOk zl cT1_ok (draws_ok envOk zl dEm_ok mixed) Tryz.func27 h⟩
 ·cases h
def tmL_R (r:Th (Set×Int)):AV:= .tup [.agg [.i .i64 fun _=>(r ()).1.size,.own 0 fun _=>(r ()).1.spans.length],.i .i64 fun _=>(r ()).2]
def tmL_H (r:Th (Set×Int)):Hp:=[vecO 108 fun _=>(r ()).1.spans]
def tmL_S (t:Table) (n:Int):Set×Int:=(⟨10,if n=2 then [⟨0,5⟩]else []⟩,0)
def tmL_P (t:Table) (n:Int):Prop:=t=tL∧0≤n∧n<16
def tmL_C:PC:=fun A K=>match A with
 |[.agg t,.i .i64 n]=>Ob (fun _=>Dat.ok Table t∧tmL_P (Dat.dec t) (n ())) (Gen (α:=Set×Int) (fun _=>tmL_S (Dat.dec t) (n ())) fun r=>K (tmL_R fun _=>r) (tmL_H fun _=>r))
 |_=>Bad 1002
set_option maxRecDepth 100000 in
set_option maxHeartbeats 4000000 in
theorem tmL_vc (t:Table) (n:Int) (hp:tmL_P t n):FnOk Tryz.prog 8 [.agg (Dat.enc fun _=>t),.i .i64 fun _=>n] [] (outA (tmL_R fun _=>tmL_S t n) (tmL_H fun _=>tmL_S t n)):=by
 refine fn_ok envOk zl cT3_ok noDraws_ok (keep:=[0,1,2,4,5,6,7,9,13,18,21,22,23,24,30]) Tryz.func8 rfl ?_
 obtain⟨rfl,n0,n1⟩:t=tL∧0≤n∧n<16:=hp
 obtain rfl|hn:n=2∨¬n=2:=by omega
 ·cbv
  repeat' first|(refine LoopVC.un 6 ?_;cbv)|(refine Imp.mk fun h=> ?_;first|exact absurd h (by decide+kernel)|exact absurd (beq_iff_eq.1 h).symm hn|exact absurd (beq_iff_eq.1 h) hn|(exfalso;simp only[nc,decide_eq_true_eq,decide_eq_false_iff_not,Bool.not_eq_true',Bool.not_eq_false']at h;omega)|skip)|(refine Gen.mk fun r hr=> ?_;subst hr;cbv)|(refine AllS.mk fun r hr=> ?_;first|obtain rfl:=List.perm_singleton.1 hr.1|obtain rfl:=List.perm_nil.1 hr.1|skip;cbv)|(refine Stp.mk ?_;cbv)|(refine Gen.mk fun r hr=> ?_;(try simp only[Dat.ok,Dat.dec,Leaf.ok,Leaf.val,Z0,Z1,Z2,Z3,Z4,Z5,Z6,Z7,Z8,Z9,Z10,Z11,Z12,Z13,Z14,Z15,Z16,Z17,Z18,Z19,Z20,Z21,Z22,val_sl,val_nil]at hr);cbv)|exact trivial|rfl|refine Both.mk ?_ ?_|(refine Imp.mk fun h=> ?_;(try dsimp only at h);(try simp only[nc,Int.toNat_natCast,ne_eq,zz]at h);(try simp only[nc]at h))|refine Ob.mk ?_ ?_|refine Chk.mk (by kernel_rfl) ?_|refine Eq'.mk ?_|(refine AllN.mk fun i hi=> ?_;cbv)|(refine AllC.mk fun c hc hcm=> ?_;(try dsimp only at hc);cbv)|(refine AllS.mk fun r hr=> ?_;(try simp only[Dat.ok,Dat.dec,Leaf.ok,Leaf.val,Z0,Z1,Z2,Z3,Z4,Z5,Z6,Z7,Z8,Z9,Z10,Z11,Z12,Z13,Z14,Z15,Z16,Z17,Z18,Z19,Z20,Z21,Z22,val_sl]at hr);cbv)
  all_goals first
   |decide+kernel
   |(unfold InR;decide+kernel)
   |exact⟨⟨rfl,fun _ _=>⟨trivial,trivial⟩⟩,show _≤_ by decide+kernel⟩
   |exact⟨rfl,rfl,fun i _=>Dat.hok _,by decide+kernel⟩
   |(have hi1:i<1:=hi
     obtain rfl:i=0:=by omega
     decide+kernel)
   |fail
 ·cbv
  repeat' first|(refine LoopVC.un 6 ?_;cbv)|(refine Imp.mk fun h=> ?_;first|exact absurd h (by decide+kernel)|exact absurd (beq_iff_eq.1 h).symm hn|exact absurd (beq_iff_eq.1 h) hn|(exfalso;simp only[nc,decide_eq_true_eq,decide_eq_false_iff_not,Bool.not_eq_true',Bool.not_eq_false']at h;omega)|skip)|(refine Gen.mk fun r hr=> ?_;subst hr;cbv)|(refine AllS.mk fun r hr=> ?_;first|obtain rfl:=List.perm_singleton.1 hr.1|obtain rfl:=List.perm_nil.1 hr.1|skip;cbv)|(refine Stp.mk ?_;cbv)|(refine Gen.mk fun r hr=> ?_;(try simp only[Dat.ok,Dat.dec,Leaf.ok,Leaf.val,Z0,Z1,Z2,Z3,Z4,Z5,Z6,Z7,Z8,Z9,Z10,Z11,Z12,Z13,Z14,Z15,Z16,Z17,Z18,Z19,Z20,Z21,Z22,val_sl,val_nil]at hr);cbv)|exact trivial|rfl|refine Both.mk ?_ ?_|(refine Imp.mk fun h=> ?_;(try dsimp only at h);(try simp only[nc,Int.toNat_natCast,ne_eq,zz]at h);(try simp only[nc]at h))|refine Ob.mk ?_ ?_|refine Chk.mk (by kernel_rfl) ?_|refine Eq'.mk ?_|(refine AllN.mk fun i hi=> ?_;cbv)|(refine AllC.mk fun c hc hcm=> ?_;(try dsimp only at hc);cbv)|(refine AllS.mk fun r hr=> ?_;(try simp only[Dat.ok,Dat.dec,Leaf.ok,Leaf.val,Z0,Z1,Z2,Z3,Z4,Z5,Z6,Z7,Z8,Z9,Z10,Z11,Z12,Z13,Z14,Z15,Z16,Z17,Z18,Z19,Z20,Z21,Z22,val_sl]at hr);cbv)
  all_goals first
   |decide+kernel
   |(unfold InR;decide+kernel)
   |exact⟨trivial,show _≤_ by decide+kernel⟩
   |exact⟨rfl,rfl,fun i _=>Dat.hok _,by decide+kernel⟩
   |(unfold tmL_S;rw[if_neg hn];rfl)
   |(have hi1:i<0:=hi
     omega)
   |fail
theorem tmL_ok:PcOk Tryz.prog 8 (tmL_C):=fun A K h=>by
 unfold tmL_C at h
 split at h
 ·rename_i t n
  cases h with
  |mk h1 h2=>
   obtain⟨g0,hp⟩:=h1
   refine FnOk.pre ?_ (A':=[.agg (Dat.enc fun _=>(Dat.dec t:Table)),.i .i64 fun _=>n ()]) (.mk (Dat.hle _ g0) (.mk (.mk (.mk rfl) (.mk rfl)) (trivial)))
   exact FnOk.out (K:=fun r H _=>K r H) (tmL_vc (Dat.dec t) (n ()) hp) rfl h2.out
 ·cases h
noncomputable def cM1:FuncId→Con:=fun f=>match f with
 |26=>inlCon E noCon noDraws [0,2] Tryz.f26
 |_=>fun _ _ _=>Bad 1001
theorem cM1_ok:ConOk Tryz.prog cM1:=fun f A H K h=>by
 unfold cM1 at h
 split at h
 ·exact⟨⟨Tryz.f26,Tryz.func26,by kernel_rfl,by kernel_rfl⟩,inl_ok envOk zl noCon_ok noDraws_ok Tryz.func26 h⟩
 ·cases h
def dM0:FuncId→Option Dt:=fun f=>match f with
 |_=>none
theorem dM0_ok:DetOk Tryz.prog dM0:=fun f d h=>by
 unfold dM0 at h
 split at h
 ·cases h
noncomputable def cM2:FuncId→Con:=fun f=>match f with
 |62=>inlCon E noCon noDraws [0,2] Tryz.f62
 |95=>inlCon E cM1 (draws E dM0) [0,1,3,4] Tryz.f95
 |25=>inlCon E cT2 noDraws [0,1,2,3,5,9,13,15,16,17,18,52] Tryz.f25
 |96=>sortWin_K
 |_=>fun _ _ _=>Bad 1001
theorem cM2_ok:ConOk Tryz.prog cM2:=fun f A H K h=>by
 unfold cM2 at h
 split at h
 ·exact⟨⟨Tryz.f62,Tryz.func62,by kernel_rfl,by kernel_rfl⟩,inl_ok envOk zl noCon_ok noDraws_ok Tryz.func62 h⟩
 ·exact⟨⟨Tryz.f95,Tryz.func95,by kernel_rfl,by kernel_rfl⟩,inl_ok envOk zl cM1_ok (draws_ok envOk zl dM0_ok mixed) Tryz.func95 h⟩
 ·exact⟨⟨Tryz.f25,Tryz.func25,by kernel_rfl,by kernel_rfl⟩,inl_ok envOk zl cT2_ok noDraws_ok Tryz.func25 h⟩
 ·exact⟨⟨Tryz.f96,Tryz.func96,by kernel_rfl,by kernel_rfl⟩,sortWin_ok h⟩
 ·cases h
def mkL_R (r:Th (Table×Int)):AV:= .tup [.agg [.i .i64 fun _=>(r ()).1.frame,.own 0 fun _=>(r ()).1.windows.length],.i .i64 fun _=>(r ()).2]
def mkL_H (r:Th (Table×Int)):Hp:=[vecO 106 fun _=>(r ()).1.windows]
def mkL_S (n:Int) (l:(List Want)):Table×Int:=(tL,0)
def mkL_P (n:Int) (l:(List Want)):Prop:=n=10∧l=[⟨2,0,5,10⟩]
def mkL_C:PC:=fun A K=>match A with
 |[.i .i64 n,l]=>Ob (fun _=>Leaf.ok (List Want) l∧mkL_P (n ()) (Leaf.val l)) (Gen (α:=Table×Int) (fun _=>mkL_S (n ()) (Leaf.val l)) fun r=>K (mkL_R fun _=>r) (mkL_H fun _=>r))
 |_=>Bad 1002
set_option maxRecDepth 100000 in
set_option maxHeartbeats 4000000 in
theorem mkL_vc (n:Int) (l:(List Want)) (hp:mkL_P n l):FnOk Tryz.prog 60 [.i .i64 fun _=>n,Leaf.av fun _=>l] [] (outA (mkL_R fun _=>mkL_S n l) (mkL_H fun _=>mkL_S n l)):=by
 refine fn_ok envOk zl cM2_ok noDraws_ok (keep:=[0,1,4,5,6,8,9,11,12,15,19,21,22,23,24,30,40,44,45,46,47,52,77]) Tryz.func60 rfl ?_
 obtain⟨rfl,rfl⟩:n=10∧l=[⟨2,0,5,10⟩]:=hp
 cbv
 repeat' first|(refine LoopVC.un 6 ?_;cbv)|(refine Imp.mk fun h=> ?_;first|exact absurd h (by decide+kernel)|exact absurd (beq_iff_eq.1 h).symm hn|exact absurd (beq_iff_eq.1 h) hn|(exfalso;simp only[nc,decide_eq_true_eq,decide_eq_false_iff_not,Bool.not_eq_true',Bool.not_eq_false']at h;omega)|skip)|(refine Gen.mk fun r hr=> ?_;subst hr;cbv)|(refine AllS.mk fun r hr=> ?_;first|obtain rfl:=List.perm_singleton.1 hr.1|obtain rfl:=List.perm_nil.1 hr.1|skip;cbv)|(refine Stp.mk ?_;cbv)|(refine Gen.mk fun r hr=> ?_;(try simp only[Dat.ok,Dat.dec,Leaf.ok,Leaf.val,Z0,Z1,Z2,Z3,Z4,Z5,Z6,Z7,Z8,Z9,Z10,Z11,Z12,Z13,Z14,Z15,Z16,Z17,Z18,Z19,Z20,Z21,Z22,val_sl,val_nil]at hr);cbv)|exact trivial|rfl|refine Both.mk ?_ ?_|(refine Imp.mk fun h=> ?_;(try dsimp only at h);(try simp only[nc,Int.toNat_natCast,ne_eq,zz]at h);(try simp only[nc]at h))|refine Ob.mk ?_ ?_|refine Chk.mk (by kernel_rfl) ?_|refine Eq'.mk ?_|(refine AllN.mk fun i hi=> ?_;cbv)|(refine AllC.mk fun c hc hcm=> ?_;(try dsimp only at hc);cbv)|(refine AllS.mk fun r hr=> ?_;(try simp only[Dat.ok,Dat.dec,Leaf.ok,Leaf.val,Z0,Z1,Z2,Z3,Z4,Z5,Z6,Z7,Z8,Z9,Z10,Z11,Z12,Z13,Z14,Z15,Z16,Z17,Z18,Z19,Z20,Z21,Z22,val_sl]at hr);cbv)
 all_goals first
  |decide+kernel
  |(unfold InR;decide+kernel)
  |exact⟨⟨rfl,fun _ _=>⟨trivial,trivial,trivial⟩⟩,show _≤_ by decide+kernel⟩
  |exact⟨rfl,rfl,fun i _=>Dat.hok _,by decide+kernel⟩
  |exact⟨rfl,rfl,fun i _=>⟨trivial,trivial,trivial⟩,by decide+kernel⟩
  |(have hi1:i<1:=hi
    obtain rfl:i=0:=by omega
    decide+kernel)
  |fail
theorem mkL_ok:PcOk Tryz.prog 60 (mkL_C):=fun A K h=>by
 unfold mkL_C at h
 split at h
 ·rename_i n l
  cases h with
  |mk h1 h2=>
   obtain⟨g0,hp⟩:=h1
   refine FnOk.pre ?_ (A':=[.i .i64 fun _=>n (),Leaf.av fun _=>(Leaf.val l:(List Want))]) (.mk (.mk (.mk rfl) (.mk rfl)) (.mk (Leaf.hle _ g0) (trivial)))
   exact FnOk.out (K:=fun r H _=>K r H) (mkL_vc (n ()) (Leaf.val l) hp) rfl h2.out
 ·cases h
end Go.Proofs.YtiaiifcgbjlfoaaGreatDoor
