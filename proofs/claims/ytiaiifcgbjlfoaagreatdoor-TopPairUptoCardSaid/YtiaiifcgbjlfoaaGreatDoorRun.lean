/- The program's functions, walked: Run. -/
import Derived.Test.YtiaiifcgbjlfoaaGreatDoorVm
set_option linter.all false
namespace Go.Proofs.YtiaiifcgbjlfoaaGreatDoor
open Go Go.Abs
structure Mac where
 at_:Int
 regs:List Int
 halts:Bool
 fault:Bool
 inp:List Int
 out:List Emit
def opV (code x y:Int):Int:=IntKind.i64.wrap (sumV code (IntKind.i32.wrap x) (IntKind.i32.wrap y))
def insAt (p:List Ins) (m:Mac):Ins:=p.getD m.at_.toNat Dat.d0
def gR (m:Mac) (k:Int):Int:=m.regs.getD k.toNat Dat.d0
def stepM (p:List Ins) (m:Mac):Option Mac:=
 if m.at_=p.length then some {m with fault:=true}else
 if(insAt p m).code=1 then some {m with regs:=m.regs.set (insAt p m).a.toNat (insAt p m).b,at_:=m.at_+1}else
 if(insAt p m).code=2∨(insAt p m).code=3∨(insAt p m).code=4∨(insAt p m).code=5 then some {m with regs:=m.regs.set (insAt p m).a.toNat (opV (insAt p m).code (gR m (insAt p m).a) (gR m (insAt p m).b)),at_:=m.at_+1}else
 if(insAt p m).code=6 then some {m with at_:=(insAt p m).b}else
 if(insAt p m).code=7 then some {m with at_:=if gR m (insAt p m).a=0 then(insAt p m).b else m.at_+1}else
 if(insAt p m).code=8 then some {m with at_:=if gR m (insAt p m).a<0 then(insAt p m).b else m.at_+1}else
 if(insAt p m).code=9 then(if m.inp.length=0 then none else some {m with regs:=m.regs.set (insAt p m).a.toNat (m.inp.getD 0 Dat.d0),inp:=m.inp.drop 1,at_:=m.at_+1})else
 if(insAt p m).code=10 then some {m with out:=m.out++[⟨(insAt p m).b,gR m (insAt p m).a⟩],at_:=m.at_+1}else
 if(insAt p m).code=11 then some {m with halts:=true}else some {m with at_:=m.at_+1}
def runM (p:List Ins):Nat→Mac→Mac×Int
 |0,m=>(m,0)
 |f+1,m=>if m.halts=true then(m,0)else if m.fault=true then(m,0)else match stepM p m with
  |none=>(m,0)
  |some m'=>((runM p f m').1,(runM p f m').2+1)
def errV (p:List Ins) (v:Vm) (inp:List Int) (fuel:Int):Int:=
 if checkP p=0 then(if rightV v=0 then(if(p.length:Int)<v.at_ then 4 else if inp.any (fun n=> !numB n)=true then 4 else if winB fuel 0 5000=true then(if 5000<inp.length then 2 else 0)else 1)else rightV v)else checkP p
def mac0 (v:Vm) (inp:List Int):Mac:=⟨v.at_,v.regs,v.halts,v.fault,inp,[]⟩
def runV (p:List Ins) (v:Vm) (inp:List Int) (fuel:Int):Vm×List Emit×Int×Int×Int:=
 if errV p v inp fuel=0 then(⟨(runM p fuel.toNat (mac0 v inp)).1.at_,(runM p fuel.toNat (mac0 v inp)).1.regs,(runM p fuel.toNat (mac0 v inp)).1.halts,(runM p fuel.toNat (mac0 v inp)).1.fault⟩,(runM p fuel.toNat (mac0 v inp)).1.out,inp.length-(runM p fuel.toNat (mac0 v inp)).1.inp.length,(runM p fuel.toNat (mac0 v inp)).2,0)
 else(⟨0,[],false,false⟩,[],0,0,errV p v inp fuel)
theorem rightV_ok {v:Vm}(h:rightV v=0):winB v.at_ 0 100=true∧v.regs.length=8∧¬(v.halts=true∧v.fault=true)∧v.regs.any (fun n=> !numB n)=false:=by
 unfold rightV at h
 split at h
 ·assumption
 ·cases h
theorem right_ins {p:List Ins}(h:checkP p=0) {k:Nat}(hk:k<p.length):rightB (p.getD k Dat.d0) p.length=true:=by
 unfold checkP at h
 split at h
 ·cases h
 ·split at h
  ·rename_i h1
   rw[List.all_eq_true]at h1
   have:=h1 (p.getD k Dat.d0) (by rw[List.getD_eq_getElem?_getD,List.getElem?_eq_getElem hk];exact List.getElem_mem hk)
   exact this
  ·cases h
theorem right_bd {i:Ins}{L:Int}(h:rightB i L=true):(i.code≠6→i.code≠11→0≤i.a∧i.a≤7)∧((i.code=2∨i.code=3∨i.code=4∨i.code=5)→0≤i.b∧i.b≤7)∧((i.code=6∨i.code=7∨i.code=8)→0≤i.b∧i.b≤L)∧1≤i.code∧i.code≤11∧(i.code=1→numB i.b=true):=by
 unfold rightB regB winB at h
 split at h
 ·simp only[Bool.and_eq_true,decide_eq_true_eq]at h
  exact⟨by omega,by omega,by omega,by omega,by omega,fun _=>h.2⟩
 split at h
 ·simp only[Bool.and_eq_true,decide_eq_true_eq]at h
  exact⟨by omega,by omega,by omega,by omega,by omega,by omega⟩
 split at h
 ·simp only[Bool.and_eq_true,decide_eq_true_eq]at h
  exact⟨by omega,by omega,by omega,by omega,by omega,by omega⟩
 split at h
 ·simp only[Bool.and_eq_true,decide_eq_true_eq]at h
  exact⟨by omega,by omega,by omega,by omega,by omega,by omega⟩
 split at h
 ·simp only[Bool.and_eq_true,decide_eq_true_eq]at h
  exact⟨by omega,by omega,by omega,by omega,by omega,by omega⟩
 split at h
 ·simp only[Bool.and_eq_true,decide_eq_true_eq]at h
  exact⟨by omega,by omega,by omega,by omega,by omega,by omega⟩
 split at h
 ·simp only[Bool.and_eq_true,decide_eq_true_eq]at h
  exact⟨by omega,by omega,by omega,by omega,by omega,by omega⟩
 ·cases h
theorem run_next {p:List Ins}{m m':Mac}{fuel:Int}{u:Nat}{r:Mac×Int}(hu:(u:Int)<fuel) (hh:m.halts=false) (hf:m.fault=false) (hs:stepM p m=some m') (hr:r=((runM p (fuel-u).toNat m).1,(runM p (fuel-u).toNat m).2+u)):
  r=((runM p (fuel-(u+1:Nat)).toNat m').1,(runM p (fuel-(u+1:Nat)).toNat m').2+(u+1:Nat)):=by
 rw[hr]
 obtain⟨f,hfu⟩:∃f,(fuel-u).toNat=f+1:=⟨(fuel-u).toNat-1,by omega⟩
 rw[show(fuel-(u+1:Nat)).toNat=f by omega,hfu,runM,if_neg (by rw[hh];decide),if_neg (by rw[hf];decide),hs]
 dsimp only
 congr 1
 omega
structure MOkV (p:List Ins) (m:Mac):Prop where
 a0:0≤m.at_
 a1:m.at_≤p.length
 rg:m.regs.length=8
structure RunX (p:List Ins) (v:Vm) (inp:List Int) (fuel:Int) where
 u:Nat
 hu:(u:Int)≤fuel
 m:Mac
 ok:MOkV p m
 ho:m.out.length≤u
 hi:m.inp.length≤inp.length
 hr:runM p fuel.toNat (mac0 v inp)=((runM p (fuel-u).toNat m).1,(runM p (fuel-u).toNat m).2+u)
def clInt_R (r:Th ((List Int))):AV:= .own 0 fun _=>(r ()).length
def clInt_H (r:Th ((List Int))):Hp:=[vecO 3 fun _=>(r ())]
def clInt_P (l:(List Int)):Prop:=l.length≤1099511627776
def clInt_C:PC:=fun A K=>match A with
 |[l]=>Ob (fun _=>Leaf.ok (List Int) l∧clInt_P (Leaf.val l)) (Gen (α:=(List Int)) (fun _=>(Leaf.val l)) fun r=>K (clInt_R fun _=>r) (clInt_H fun _=>r))
 |_=>Bad 1002
set_option maxRecDepth 100000 in
set_option maxHeartbeats 4000000 in
theorem clInt_vc (l:(List Int)) (hp:clInt_P l):FnOk Tryz.prog 36 [Leaf.av fun _=>l] [] (outA (clInt_R fun _=>l) (clInt_H fun _=>l)):=by
 refine fn_ok envOk zl noCon_ok noDraws_ok (keep:=[0,2,4]) Tryz.func36 rfl ?_
 have hp':l.length≤1099511627776:=hp
 cbv
 repeat' first|(refine Stp.mk ?_;cbv)|(refine Gen.mk fun r hr=> ?_;(try simp only[Dat.ok,Dat.dec,Leaf.ok,Leaf.val,Z0,Z1,Z2,Z3,Z4,Z5,Z6,Z7,Z8,Z9,Z10,Z11,Z12,Z13,Z14,Z15,Z16,Z17,Z18,Z19,Z20,Z21,Z22,val_sl,val_nil]at hr);cbv)|exact trivial|rfl|refine Both.mk ?_ ?_|(refine Imp.mk fun h=> ?_;(try dsimp only at h);(try simp only[nc,Int.toNat_natCast,ne_eq,zz]at h);(try simp only[nc]at h))|refine Ob.mk ?_ ?_|refine Chk.mk (by kernel_rfl) ?_|refine Eq'.mk ?_|(refine AllN.mk fun i hi=> ?_;cbv)|(refine AllC.mk fun c hc hcm=> ?_;(try dsimp only at hc);cbv)|(refine AllS.mk fun r hr=> ?_;(try simp only[Dat.ok,Dat.dec,Leaf.ok,Leaf.val,Z0,Z1,Z2,Z3,Z4,Z5,Z6,Z7,Z8,Z9,Z10,Z11,Z12,Z13,Z14,Z15,Z16,Z17,Z18,Z19,Z20,Z21,Z22,val_sl]at hr);cbv)
 all_goals ((try dsimp only at*);(try simp only[nc,Int.toNat_natCast,ne_eq,zz]at*);(try simp only[nc]at*))
 all_goals first
  |omega
  |(exact⟨Nat.le_refl _,trivial,by omega,by omega⟩)
  |(simp only[Nat.zero_add,Nat.sub_zero,Nat.not_lt_zero,decide_false,cond_false];done)
  |(simp_all;done)
  |fail
theorem clInt_ok:PcOk Tryz.prog 36 (clInt_C):=fun A K h=>by
 unfold clInt_C at h
 split at h
 ·rename_i l
  cases h with
  |mk h1 h2=>
   obtain⟨g0,hp⟩:=h1
   refine FnOk.pre ?_ (A':=[Leaf.av fun _=>(Leaf.val l:(List Int))]) (.mk (Leaf.hle _ g0) (trivial))
   exact FnOk.out (K:=fun r H _=>K r H) (clInt_vc (Leaf.val l) hp) rfl h2.out
 ·cases h
noncomputable def cR1:FuncId→Con:=fun f=>match f with
 |71=>pureCon (detPC sumC_D)
 |_=>fun _ _ _=>Bad 1001
theorem cR1_ok:ConOk Tryz.prog cR1:=fun f A H K h=>by
 unfold cR1 at h
 split at h
 ·exact⟨⟨Tryz.f71,Tryz.func71,by kernel_rfl,by kernel_rfl⟩,pureCon_ok sumC_ok h⟩
 ·cases h
def dR1:FuncId→Option Dt:=fun f=>match f with
 |71=>some (.c sumC_D)
 |_=>none
theorem dR1_ok:DetOk Tryz.prog dR1:=fun f d h=>by
 unfold dR1 at h
 split at h
 ·cases h;exact⟨⟨Tryz.f71,Tryz.func71,by kernel_rfl,by kernel_rfl⟩,sumC_ok⟩
 ·cases h
noncomputable def cR2:FuncId→Con:=fun f=>match f with
 |30=>pureCon (detPC checkC_D)
 |31=>pureCon (detPC rightVC_D)
 |35=>pureCon (detPC win_D)
 |36=>pureCon clInt_C
 |32=>inlCon E cV6 noDraws [0,1,4] Tryz.f32
 |37=>inlCon E cR1 (draws E dR1) [0,2,3,4,5,16,44,45,53,78,82,89,92,99,102,109,128,147] Tryz.f37
 |_=>fun _ _ _=>Bad 1001
theorem cR2_ok:ConOk Tryz.prog cR2:=fun f A H K h=>by
 unfold cR2 at h
 split at h
 ·exact⟨⟨Tryz.f30,Tryz.func30,by kernel_rfl,by kernel_rfl⟩,pureCon_ok checkC_ok h⟩
 ·exact⟨⟨Tryz.f31,Tryz.func31,by kernel_rfl,by kernel_rfl⟩,pureCon_ok rightVC_ok h⟩
 ·exact⟨⟨Tryz.f35,Tryz.func35,by kernel_rfl,by kernel_rfl⟩,pureCon_ok win_ok h⟩
 ·exact⟨⟨Tryz.f36,Tryz.func36,by kernel_rfl,by kernel_rfl⟩,pureCon_ok clInt_ok h⟩
 ·exact⟨⟨Tryz.f32,Tryz.func32,by kernel_rfl,by kernel_rfl⟩,inl_ok envOk zl cV6_ok noDraws_ok Tryz.func32 h⟩
 ·exact⟨⟨Tryz.f37,Tryz.func37,by kernel_rfl,by kernel_rfl⟩,inl_ok envOk zl cR1_ok (draws_ok envOk zl dR1_ok mixed) Tryz.func37 h⟩
 ·cases h
def run_R (r:Th (Vm×(List Emit)×Int×Int×Int)):AV:= .tup [.agg [.i .i64 fun _=>(r ()).1.at_,.own 0 fun _=>(r ()).1.regs.length,.b fun _=>(r ()).1.halts,.b fun _=>(r ()).1.fault],.own 1 fun _=>(r ()).2.1.length,.i .i64 fun _=>(r ()).2.2.1,.i .i64 fun _=>(r ()).2.2.2.1,.i .i64 fun _=>(r ()).2.2.2.2]
def run_H (r:Th (Vm×(List Emit)×Int×Int×Int)):Hp:=[vecO 3 fun _=>(r ()).1.regs,vecO 78 fun _=>(r ()).2.1]
def run_P (p:(List Ins)) (v:Vm) (inp:(List Int)) (fuel:Int):Prop:=p.length≤9223372036854775807∧v.regs.length≤9223372036854775807∧inp.length≤9223372036854775807
theorem runV_err {p:List Ins}{v:Vm}{inp:List Int}{fuel e:Int}(h:errV p v inp fuel=e) (h0:¬e=0):runV p v inp fuel=(⟨0,[],false,false⟩,[],0,0,e):=by
 rw[runV,h,if_neg h0]
theorem runV_ok {p:List Ins}{v:Vm}{inp:List Int}{fuel:Int}(h:errV p v inp fuel=0) {m:Mac}{u:Int}(hr:runM p fuel.toNat (mac0 v inp)=(m,u)):runV p v inp fuel=(⟨m.at_,m.regs,m.halts,m.fault⟩,m.out,(inp.length:Int)-(m.inp.length:Int),u,0):=by
 rw[runV,h,if_pos rfl,hr]
set_option maxRecDepth 100000 in
set_option maxHeartbeats 4000000 in
theorem run_vc (p:(List Ins)) (v:Vm) (inp:(List Int)) (fuel:Int) (hp:run_P p v inp fuel):FnOk Tryz.prog 10 [Leaf.av fun _=>p,.agg (Dat.enc fun _=>v),Leaf.av fun _=>inp,.i .i64 fun _=>fuel] [] (outA (run_R fun _=>runV p v inp fuel) (run_H fun _=>runV p v inp fuel)):=by
 refine fn_ok envOk zl cR2_ok (draws_ok envOk zl noDet_ok mixed) (keep:=[0,1,2,3,5,8,9,10,11,12,13,14,15,19,22,25,35,39,44,73]) Tryz.func10 rfl ?_
 obtain⟨hp1,hp2,hp3⟩:p.length≤9223372036854775807∧v.regs.length≤9223372036854775807∧inp.length≤9223372036854775807:=hp
 have fin0:∀e H kl,errV p v inp fuel=e→¬e=0→outA (run_R fun _=>runV p v inp fuel) (run_H fun _=>runV p v inp fuel) (.tup [.agg [.i .i64 fun _=>0,.nil,.bc false,.bc false],.nil,.i .i64 fun _=>0,.i .i64 fun _=>0,.i .i64 fun _=>e]) H kl:=by
  intro e H kl h h0
  rw[runV_err h h0]
  cbv
  repeat' first|(refine Stp.mk ?_;cbv)|(refine Gen.mk fun r hr=> ?_;(try simp only[Dat.ok,Dat.dec,Leaf.ok,Leaf.val,Z0,Z1,Z2,Z3,Z4,Z5,Z6,Z7,Z8,Z9,Z10,Z11,Z12,Z13,Z14,Z15,Z16,Z17,Z18,Z19,Z20,Z21,Z22,val_sl,val_nil]at hr);cbv)|exact trivial|rfl|refine Both.mk ?_ ?_|(refine Imp.mk fun h=> ?_;(try dsimp only at h);(try simp only[nc,Int.toNat_natCast,ne_eq,zz]at h);(try simp only[nc]at h))|refine Ob.mk ?_ ?_|refine Chk.mk (by kernel_rfl) ?_|refine Eq'.mk ?_|(refine AllN.mk fun i hi=> ?_;cbv)|(refine AllC.mk fun c hc hcm=> ?_;(try dsimp only at hc);cbv)|(refine AllS.mk fun r hr=> ?_;(try simp only[Dat.ok,Dat.dec,Leaf.ok,Leaf.val,Z0,Z1,Z2,Z3,Z4,Z5,Z6,Z7,Z8,Z9,Z10,Z11,Z12,Z13,Z14,Z15,Z16,Z17,Z18,Z19,Z20,Z21,Z22,val_sl]at hr);cbv)
  all_goals exact absurd hi (Nat.not_lt_zero _)
 have fin1:∀x0 x1 x2 (m:Mac) (u:Int) H kl,errV p v inp fuel=0→runM p fuel.toNat (mac0 v inp)=(m,u)→outA (run_R fun _=>runV p v inp fuel) (run_H fun _=>runV p v inp fuel)
   (.tup [.agg [.i .i64 fun _=>m.at_,.own 3 fun _=>m.regs.length,.b fun _=>m.halts,.b fun _=>m.fault],.own 4 fun _=>m.out.length,.i .i64 fun _=>inp.length-m.inp.length,.i .i64 fun _=>u,.i .i64 fun _=>0])
   (x0::x1::x2::vecO 3 (fun _=>m.regs)::vecO 78 (fun _=>m.out)::H) kl:=by
  intro x0 x1 x2 m u H kl h0 h
  rw[runV_ok h0 h]
  cbv
  repeat' first|(refine Stp.mk ?_;cbv)|(refine Gen.mk fun r hr=> ?_;(try simp only[Dat.ok,Dat.dec,Leaf.ok,Leaf.val,Z0,Z1,Z2,Z3,Z4,Z5,Z6,Z7,Z8,Z9,Z10,Z11,Z12,Z13,Z14,Z15,Z16,Z17,Z18,Z19,Z20,Z21,Z22,val_sl,val_nil]at hr);cbv)|exact trivial|rfl|refine Both.mk ?_ ?_|(refine Imp.mk fun h=> ?_;(try dsimp only at h);(try simp only[nc,Int.toNat_natCast,ne_eq,zz]at h);(try simp only[nc]at h))|refine Ob.mk ?_ ?_|refine Chk.mk (by kernel_rfl) ?_|refine Eq'.mk ?_|(refine AllN.mk fun i hi=> ?_;cbv)|(refine AllC.mk fun c hc hcm=> ?_;(try dsimp only at hc);cbv)|(refine AllS.mk fun r hr=> ?_;(try simp only[Dat.ok,Dat.dec,Leaf.ok,Leaf.val,Z0,Z1,Z2,Z3,Z4,Z5,Z6,Z7,Z8,Z9,Z10,Z11,Z12,Z13,Z14,Z15,Z16,Z17,Z18,Z19,Z20,Z21,Z22,val_sl]at hr);cbv)
 generalize outA (run_R fun _=>runV p v inp fuel) (run_H fun _=>runV p v inp fuel)=K at fin0 fin1
 cbv
 repeat' first|(show Stp _;exfalso;first|omega|(exact h ‹_›)|(exact absurd ‹_› h)|(exact Bool.false_ne_true (h.symm.trans (show _=true by assumption))))|(refine Stp.mk ?_;cbv)|(refine Gen.mk fun r hr=> ?_;(try simp only[Dat.ok,Dat.dec,Leaf.ok,Leaf.val,Z0,Z1,Z2,Z3,Z4,Z5,Z6,Z7,Z8,Z9,Z10,Z11,Z12,Z13,Z14,Z15,Z16,Z17,Z18,Z19,Z20,Z21,Z22,val_sl,val_nil]at hr);cbv)|exact trivial|rfl|refine Both.mk ?_ ?_|(refine Imp.mk fun h=> ?_;(try dsimp only at h);(try simp only[nc,Int.toNat_natCast,ne_eq,zz]at h);(try simp only[nc]at h))|refine Ob.mk ?_ ?_|refine Chk.mk (by kernel_rfl) ?_|refine Eq'.mk ?_|(refine AllN.mk fun i hi=> ?_;cbv)|(refine AllC.mk fun c hc hcm=> ?_;(try dsimp only at hc);cbv)|(refine AllS.mk fun r hr=> ?_;(try simp only[Dat.ok,Dat.dec,Leaf.ok,Leaf.val,Z0,Z1,Z2,Z3,Z4,Z5,Z6,Z7,Z8,Z9,Z10,Z11,Z12,Z13,Z14,Z15,Z16,Z17,Z18,Z19,Z20,Z21,Z22,val_sl]at hr);cbv)
 all_goals ((try dsimp only at*);(try simp only[nc,Int.toNat_natCast,ne_eq,zz]at*);(try simp only[nc]at*))
 all_goals try simp only[Dat.ok,Dat.dec,Leaf.ok,Leaf.val,Z0,Z1,Z2,Z3,Z4,Z5,Z6,Z7,Z8,Z9,Z10,Z11,Z12,Z13,Z14,Z15,Z16,Z17,Z18,Z19,Z20,Z21,Z22,val_sl]at*
 all_goals first
  |exact⟨⟨rfl,fun i _=>Dat.hok _⟩,hp1⟩
  |exact⟨⟨trivial,⟨rfl,fun i _=>Dat.hok _⟩,trivial,trivial⟩,hp2⟩
  |(refine fin0 _ _ _ ?_ (by assumption)
    unfold errV
    first
     |(rw[if_neg (by assumption)];done)
     |(rw[if_pos (by assumption),if_neg (by assumption)];done)
     |(rw[if_pos (by assumption),if_pos (by assumption),if_pos (by assumption)];done))
  |skip
 refine LoopVC.frame [4,5,8,9,16] (AnyI inp) (fun x=>[(8,.i .i64 fun _=>x.k)]) (fun _=>[]) [] (fun x=>inp.length-x.k) ⟨0,Nat.zero_le _,by simp⟩ rfl (fun _=>rfl) ?_ ?_ fun⟨k,hk,hr⟩=> ?_
 iterate 2
  ·cbv
   repeat' first|(refine Stp.mk ?_;cbv)|(refine Gen.mk fun r hr=> ?_;(try simp only[Dat.ok,Dat.dec,Leaf.ok,Leaf.val,Z0,Z1,Z2,Z3,Z4,Z5,Z6,Z7,Z8,Z9,Z10,Z11,Z12,Z13,Z14,Z15,Z16,Z17,Z18,Z19,Z20,Z21,Z22,val_sl,val_nil]at hr);cbv)|exact trivial|rfl|refine Both.mk ?_ ?_|(refine Imp.mk fun h=> ?_;(try dsimp only at h);(try simp only[nc,Int.toNat_natCast,ne_eq,zz]at h);(try simp only[nc]at h))|refine Ob.mk ?_ ?_|refine Chk.mk (by kernel_rfl) ?_|refine Eq'.mk ?_|(refine AllN.mk fun i hi=> ?_;cbv)|(refine AllC.mk fun c hc hcm=> ?_;(try dsimp only at hc);cbv)|(refine AllS.mk fun r hr=> ?_;(try simp only[Dat.ok,Dat.dec,Leaf.ok,Leaf.val,Z0,Z1,Z2,Z3,Z4,Z5,Z6,Z7,Z8,Z9,Z10,Z11,Z12,Z13,Z14,Z15,Z16,Z17,Z18,Z19,Z20,Z21,Z22,val_sl]at hr);cbv)
 cbv
 repeat' first|(show Stp _;exfalso;first|omega|(exact h ‹_›)|(exact absurd ‹_› h)|(exact Bool.false_ne_true (h.symm.trans (show _=true by assumption))))|(refine Stp.mk ?_;cbv)|(refine Gen.mk fun r hr=> ?_;(try simp only[Dat.ok,Dat.dec,Leaf.ok,Leaf.val,Z0,Z1,Z2,Z3,Z4,Z5,Z6,Z7,Z8,Z9,Z10,Z11,Z12,Z13,Z14,Z15,Z16,Z17,Z18,Z19,Z20,Z21,Z22,val_sl,val_nil]at hr);cbv)|exact trivial|rfl|refine Both.mk ?_ ?_|(refine Imp.mk fun h=> ?_;(try dsimp only at h);(try simp only[nc,Int.toNat_natCast,ne_eq,zz]at h);(try simp only[nc]at h))|refine Ob.mk ?_ ?_|refine Chk.mk (by kernel_rfl) ?_|refine Eq'.mk ?_|(refine AllN.mk fun i hi=> ?_;cbv)|(refine AllC.mk fun c hc hcm=> ?_;(try dsimp only at hc);cbv)|(refine AllS.mk fun r hr=> ?_;(try simp only[Dat.ok,Dat.dec,Leaf.ok,Leaf.val,Z0,Z1,Z2,Z3,Z4,Z5,Z6,Z7,Z8,Z9,Z10,Z11,Z12,Z13,Z14,Z15,Z16,Z17,Z18,Z19,Z20,Z21,Z22,val_sl]at hr);cbv)
 all_goals ((try dsimp only at*);(try simp only[nc,Int.toNat_natCast,ne_eq,zz]at*);(try simp only[nc]at*))
 all_goals try simp only[Dat.ok,Dat.dec,Leaf.ok,Leaf.val,Z0,Z1,Z2,Z3,Z4,Z5,Z6,Z7,Z8,Z9,Z10,Z11,Z12,Z13,Z14,Z15,Z16,Z17,Z18,Z19,Z20,Z21,Z22,val_sl]at*
 all_goals first
  |omega
  |(unfold InR;omega)
  |exact⟨⟨rfl,fun i _=>Dat.hok _⟩,show v.regs.length≤1099511627776 by have:=(rightV_ok (show rightV v=0 by assumption)).2.1;omega⟩
  |(have hb:numB (inp.getD k Dat.d0)=true:=by assumption
    refine⟨⟨k+1,by omega,by rw[hr,drop_cons Dat.d0 (by omega),List.any_cons,hb];rfl⟩, ?_, ?_,rfl,by(try dsimp only);omega⟩
    ·cbv
     repeat' first|(refine Stp.mk ?_;cbv)|(refine Gen.mk fun r hr=> ?_;(try simp only[Dat.ok,Dat.dec,Leaf.ok,Leaf.val,Z0,Z1,Z2,Z3,Z4,Z5,Z6,Z7,Z8,Z9,Z10,Z11,Z12,Z13,Z14,Z15,Z16,Z17,Z18,Z19,Z20,Z21,Z22,val_sl,val_nil]at hr);cbv)|exact trivial|rfl|refine Both.mk ?_ ?_|(refine Imp.mk fun h=> ?_;(try dsimp only at h);(try simp only[nc,Int.toNat_natCast,ne_eq,zz]at h);(try simp only[nc]at h))|refine Ob.mk ?_ ?_|refine Chk.mk (by kernel_rfl) ?_|refine Eq'.mk ?_|(refine AllN.mk fun i hi=> ?_;cbv)|(refine AllC.mk fun c hc hcm=> ?_;(try dsimp only at hc);cbv)|(refine AllS.mk fun r hr=> ?_;(try simp only[Dat.ok,Dat.dec,Leaf.ok,Leaf.val,Z0,Z1,Z2,Z3,Z4,Z5,Z6,Z7,Z8,Z9,Z10,Z11,Z12,Z13,Z14,Z15,Z16,Z17,Z18,Z19,Z20,Z21,Z22,val_sl]at hr);cbv)
    ·cbv
     repeat' first|(refine Stp.mk ?_;cbv)|(refine Gen.mk fun r hr=> ?_;(try simp only[Dat.ok,Dat.dec,Leaf.ok,Leaf.val,Z0,Z1,Z2,Z3,Z4,Z5,Z6,Z7,Z8,Z9,Z10,Z11,Z12,Z13,Z14,Z15,Z16,Z17,Z18,Z19,Z20,Z21,Z22,val_sl,val_nil]at hr);cbv)|exact trivial|rfl|refine Both.mk ?_ ?_|(refine Imp.mk fun h=> ?_;(try dsimp only at h);(try simp only[nc,Int.toNat_natCast,ne_eq,zz]at h);(try simp only[nc]at h))|refine Ob.mk ?_ ?_|refine Chk.mk (by kernel_rfl) ?_|refine Eq'.mk ?_|(refine AllN.mk fun i hi=> ?_;cbv)|(refine AllC.mk fun c hc hcm=> ?_;(try dsimp only at hc);cbv)|(refine AllS.mk fun r hr=> ?_;(try simp only[Dat.ok,Dat.dec,Leaf.ok,Leaf.val,Z0,Z1,Z2,Z3,Z4,Z5,Z6,Z7,Z8,Z9,Z10,Z11,Z12,Z13,Z14,Z15,Z16,Z17,Z18,Z19,Z20,Z21,Z22,val_sl]at hr);cbv))
  |(refine fin0 _ _ _ ?_ (by assumption)
    have hb:numB (inp.getD k Dat.d0)=false:=by assumption
    have e:(inp.any fun n=> !numB n)=true:=by rw[hr,drop_cons Dat.d0 (by omega),List.any_cons,hb];rfl
    unfold errV
    rw[if_pos (by assumption),if_pos (by assumption),if_neg (by omega),if_pos e])
  |(refine fin0 _ _ _ ?_ (by assumption)
    have e:(inp.any fun n=> !numB n)=false:=by rw[hr,drop_nil (by omega)];rfl
    unfold errV
    rw[if_pos (by assumption),if_pos (by assumption),if_neg (by omega),e,if_neg (by decide)]
    first
     |(rw[if_pos (by assumption),if_pos (by omega)];done)
     |(rw[if_neg (by simp_all)];done))
  |skip
 subst_vars
 have hch:checkP p=0:=by assumption
 have hri:rightV v=0:=by assumption
 have hfu:winB fuel 0 5000=true:=by assumption
 have hil:(inp.length:Int)≤5000:=by assumption
 have hat:v.at_≤(p.length:Int):=by assumption
 obtain⟨r1,r2,r3,r4⟩:=rightV_ok hri
 have hf2:0≤fuel∧fuel≤5000:=by simpa[winB]using hfu
 have ha2:0≤v.at_∧v.at_≤100:=by simpa[winB]using r1
 have hpl:p.length≤100:=by
  unfold checkP at hch
  split at hch
  ·cases hch
  ·omega
 have herr:errV p v inp fuel=0:=by
  have e:(inp.any fun n=> !numB n)=false:=by rw[hr,drop_nil (by omega)];rfl
  unfold errV
  rw[if_pos hch,if_pos hri,if_neg (by omega),e,if_neg (by decide),if_pos hfu,if_neg (by omega)]
 clear hr
 refine LoopVC.frame [15,73] (RunX p v inp fuel) (fun x=>[(15,.i .i64 fun _=>x.u)]) (fun x=>[(2,.blk [.i .i64 fun _=>x.m.at_,.own 3 fun _=>x.m.regs.length,.b fun _=>x.m.halts,.b fun _=>x.m.fault,Leaf.av fun _=>p,Leaf.av fun _=>x.m.inp,.own 4 fun _=>x.m.out.length]),(3,vecO 3 fun _=>x.m.regs),(4,vecO 78 fun _=>x.m.out)]) [4] (fun x=>(fuel-x.u).toNat)
  ⟨0,hf2.1,mac0 v inp,⟨ha2.1,hat,r2⟩,Nat.zero_le _,Nat.le_refl _,by simp⟩ rfl (fun _=>rfl) ?_ ?_ fun⟨u,hu,⟨at_,regs,halts,fault,inp',out⟩,ok,ho,hi,hrun⟩=> ?_
 iterate 2
  ·cbv
   repeat' first|(refine Stp.mk ?_;cbv)|(refine Gen.mk fun r hr=> ?_;(try simp only[Dat.ok,Dat.dec,Leaf.ok,Leaf.val,Z0,Z1,Z2,Z3,Z4,Z5,Z6,Z7,Z8,Z9,Z10,Z11,Z12,Z13,Z14,Z15,Z16,Z17,Z18,Z19,Z20,Z21,Z22,val_sl,val_nil]at hr);cbv)|exact trivial|rfl|refine Both.mk ?_ ?_|(refine Imp.mk fun h=> ?_;(try dsimp only at h);(try simp only[nc,Int.toNat_natCast,ne_eq,zz]at h);(try simp only[nc]at h))|refine Ob.mk ?_ ?_|refine Chk.mk (by kernel_rfl) ?_|refine Eq'.mk ?_|(refine AllN.mk fun i hi=> ?_;cbv)|(refine AllC.mk fun c hc hcm=> ?_;(try dsimp only at hc);cbv)|(refine AllS.mk fun r hr=> ?_;(try simp only[Dat.ok,Dat.dec,Leaf.ok,Leaf.val,Z0,Z1,Z2,Z3,Z4,Z5,Z6,Z7,Z8,Z9,Z10,Z11,Z12,Z13,Z14,Z15,Z16,Z17,Z18,Z19,Z20,Z21,Z22,val_sl]at hr);cbv)
 obtain⟨o1,o2,o3⟩:=ok
 dsimp only at o1 o2 o3 ho hi
 cbv
 repeat' first|(show Stp _;exfalso;first|omega|(exact h ‹_›)|(exact absurd ‹_› h)|(exact Bool.false_ne_true (h.symm.trans (show _=true by assumption))))|(refine Stp.mk ?_;cbv)|(refine Gen.mk fun r hr=> ?_;(try simp only[Dat.ok,Dat.dec,Leaf.ok,Leaf.val,Z0,Z1,Z2,Z3,Z4,Z5,Z6,Z7,Z8,Z9,Z10,Z11,Z12,Z13,Z14,Z15,Z16,Z17,Z18,Z19,Z20,Z21,Z22,val_sl,val_nil]at hr);cbv)|exact trivial|rfl|refine Both.mk ?_ ?_|(refine Imp.mk fun h=> ?_;(try dsimp only at h);(try simp only[nc,Int.toNat_natCast,ne_eq,zz]at h);(try simp only[nc]at h))|refine Ob.mk ?_ ?_|refine Chk.mk (by kernel_rfl) ?_|refine Eq'.mk ?_|(refine AllN.mk fun i hi=> ?_;cbv)|(refine AllC.mk fun c hc hcm=> ?_;(try dsimp only at hc);cbv)|(refine AllS.mk fun r hr=> ?_;(try simp only[Dat.ok,Dat.dec,Leaf.ok,Leaf.val,Z0,Z1,Z2,Z3,Z4,Z5,Z6,Z7,Z8,Z9,Z10,Z11,Z12,Z13,Z14,Z15,Z16,Z17,Z18,Z19,Z20,Z21,Z22,val_sl]at hr);cbv)
 all_goals ((try dsimp only at*);(try simp only[nc,Int.toNat_natCast,ne_eq,zz]at*);(try simp only[nc]at*))
 all_goals try simp only[Dat.ok,Dat.dec,Leaf.ok,Leaf.val,Z0,Z1,Z2,Z3,Z4,Z5,Z6,Z7,Z8,Z9,Z10,Z11,Z12,Z13,Z14,Z15,Z16,Z17,Z18,Z19,Z20,Z21,Z22,val_sl]at*
 all_goals try rw[nc]at hu
 all_goals try rw[nc]at o2
 all_goals try have hI:=right_bd (right_ins hch (show at_.toNat<p.length by omega))
 all_goals first
  |omega
  |(unfold InR;omega)
  |(exfalso;omega)
  |exact⟨Nat.le_refl _,Nat.le_refl _,by omega,by omega⟩
  |(have es:stepM p ⟨at_,regs,halts,fault,inp',out⟩=some ⟨at_,regs,halts,true,inp',out⟩:=by
     unfold stepM insAt gR
     dsimp only
     repeat (first|rw[if_pos (by omega)]|rw[if_neg (by omega)])
    refine⟨⟨u+1,by omega,⟨at_,regs,halts,true,inp',out⟩,⟨by(try dsimp only);omega,by(try dsimp only);omega,by(try rw[List.length_set]);exact o3⟩,by first|exact Nat.le_succ_of_le ho|(rw[List.length_append];exact Nat.succ_le_succ ho),by first|exact hi|(rw[List.length_drop];omega),run_next (by omega) (by assumption) (by assumption) es hrun⟩, ?_, ?_,rfl,by(try dsimp only);omega⟩
    ·cbv
     repeat' first|(refine Stp.mk ?_;cbv)|(refine Gen.mk fun r hr=> ?_;(try simp only[Dat.ok,Dat.dec,Leaf.ok,Leaf.val,Z0,Z1,Z2,Z3,Z4,Z5,Z6,Z7,Z8,Z9,Z10,Z11,Z12,Z13,Z14,Z15,Z16,Z17,Z18,Z19,Z20,Z21,Z22,val_sl,val_nil]at hr);cbv)|exact trivial|rfl|refine Both.mk ?_ ?_|(refine Imp.mk fun h=> ?_;(try dsimp only at h);(try simp only[nc,Int.toNat_natCast,ne_eq,zz]at h);(try simp only[nc]at h))|refine Ob.mk ?_ ?_|refine Chk.mk (by kernel_rfl) ?_|refine Eq'.mk ?_|(refine AllN.mk fun i hi=> ?_;cbv)|(refine AllC.mk fun c hc hcm=> ?_;(try dsimp only at hc);cbv)|(refine AllS.mk fun r hr=> ?_;(try simp only[Dat.ok,Dat.dec,Leaf.ok,Leaf.val,Z0,Z1,Z2,Z3,Z4,Z5,Z6,Z7,Z8,Z9,Z10,Z11,Z12,Z13,Z14,Z15,Z16,Z17,Z18,Z19,Z20,Z21,Z22,val_sl]at hr);cbv)
     all_goals first|rfl|simp
    ·cbv
     repeat' first|(refine Stp.mk ?_;cbv)|(refine Gen.mk fun r hr=> ?_;(try simp only[Dat.ok,Dat.dec,Leaf.ok,Leaf.val,Z0,Z1,Z2,Z3,Z4,Z5,Z6,Z7,Z8,Z9,Z10,Z11,Z12,Z13,Z14,Z15,Z16,Z17,Z18,Z19,Z20,Z21,Z22,val_sl,val_nil]at hr);cbv)|exact trivial|rfl|refine Both.mk ?_ ?_|(refine Imp.mk fun h=> ?_;(try dsimp only at h);(try simp only[nc,Int.toNat_natCast,ne_eq,zz]at h);(try simp only[nc]at h))|refine Ob.mk ?_ ?_|refine Chk.mk (by kernel_rfl) ?_|refine Eq'.mk ?_|(refine AllN.mk fun i hi=> ?_;cbv)|(refine AllC.mk fun c hc hcm=> ?_;(try dsimp only at hc);cbv)|(refine AllS.mk fun r hr=> ?_;(try simp only[Dat.ok,Dat.dec,Leaf.ok,Leaf.val,Z0,Z1,Z2,Z3,Z4,Z5,Z6,Z7,Z8,Z9,Z10,Z11,Z12,Z13,Z14,Z15,Z16,Z17,Z18,Z19,Z20,Z21,Z22,val_sl]at hr);cbv)
     all_goals ((try dsimp only at*);(try simp only[nc,Int.toNat_natCast,ne_eq,zz]at*);(try simp only[nc]at*))
     all_goals first
      |rfl
      |(simp;done)
      |(rw[gd_set _ _ _ _ _ (by assumption)];done)
      |(rw[gd_set _ _ _ _ _ (by assumption)];rfl)
      |(rw[gd_snoc _ _ _ _ (by assumption)];cases decide (_<out.length)<;>rfl)
      |(rw[gd_snoc _ _ _ _ (by assumption)];done)
      |(simp[List.length_drop];done)
      |(simp[List.length_drop];omega)
      |(rw[gd_drop];congr 1;omega)
      |fail)
  |(have es:stepM p ⟨at_,regs,halts,fault,inp',out⟩=some ⟨at_+1,regs.set (p.getD at_.toNat Dat.d0).a.toNat (p.getD at_.toNat Dat.d0).b,halts,fault,inp',out⟩:=by
     unfold stepM insAt gR
     dsimp only
     repeat (first|rw[if_pos (by omega)]|rw[if_neg (by omega)])
    refine⟨⟨u+1,by omega,⟨at_+1,regs.set (p.getD at_.toNat Dat.d0).a.toNat (p.getD at_.toNat Dat.d0).b,halts,fault,inp',out⟩,⟨by(try dsimp only);omega,by(try dsimp only);omega,by(try rw[List.length_set]);exact o3⟩,by first|exact Nat.le_succ_of_le ho|(rw[List.length_append];exact Nat.succ_le_succ ho),by first|exact hi|(rw[List.length_drop];omega),run_next (by omega) (by assumption) (by assumption) es hrun⟩, ?_, ?_,rfl,by(try dsimp only);omega⟩
    ·cbv
     repeat' first|(refine Stp.mk ?_;cbv)|(refine Gen.mk fun r hr=> ?_;(try simp only[Dat.ok,Dat.dec,Leaf.ok,Leaf.val,Z0,Z1,Z2,Z3,Z4,Z5,Z6,Z7,Z8,Z9,Z10,Z11,Z12,Z13,Z14,Z15,Z16,Z17,Z18,Z19,Z20,Z21,Z22,val_sl,val_nil]at hr);cbv)|exact trivial|rfl|refine Both.mk ?_ ?_|(refine Imp.mk fun h=> ?_;(try dsimp only at h);(try simp only[nc,Int.toNat_natCast,ne_eq,zz]at h);(try simp only[nc]at h))|refine Ob.mk ?_ ?_|refine Chk.mk (by kernel_rfl) ?_|refine Eq'.mk ?_|(refine AllN.mk fun i hi=> ?_;cbv)|(refine AllC.mk fun c hc hcm=> ?_;(try dsimp only at hc);cbv)|(refine AllS.mk fun r hr=> ?_;(try simp only[Dat.ok,Dat.dec,Leaf.ok,Leaf.val,Z0,Z1,Z2,Z3,Z4,Z5,Z6,Z7,Z8,Z9,Z10,Z11,Z12,Z13,Z14,Z15,Z16,Z17,Z18,Z19,Z20,Z21,Z22,val_sl]at hr);cbv)
     all_goals first|rfl|simp
    ·cbv
     repeat' first|(refine Stp.mk ?_;cbv)|(refine Gen.mk fun r hr=> ?_;(try simp only[Dat.ok,Dat.dec,Leaf.ok,Leaf.val,Z0,Z1,Z2,Z3,Z4,Z5,Z6,Z7,Z8,Z9,Z10,Z11,Z12,Z13,Z14,Z15,Z16,Z17,Z18,Z19,Z20,Z21,Z22,val_sl,val_nil]at hr);cbv)|exact trivial|rfl|refine Both.mk ?_ ?_|(refine Imp.mk fun h=> ?_;(try dsimp only at h);(try simp only[nc,Int.toNat_natCast,ne_eq,zz]at h);(try simp only[nc]at h))|refine Ob.mk ?_ ?_|refine Chk.mk (by kernel_rfl) ?_|refine Eq'.mk ?_|(refine AllN.mk fun i hi=> ?_;cbv)|(refine AllC.mk fun c hc hcm=> ?_;(try dsimp only at hc);cbv)|(refine AllS.mk fun r hr=> ?_;(try simp only[Dat.ok,Dat.dec,Leaf.ok,Leaf.val,Z0,Z1,Z2,Z3,Z4,Z5,Z6,Z7,Z8,Z9,Z10,Z11,Z12,Z13,Z14,Z15,Z16,Z17,Z18,Z19,Z20,Z21,Z22,val_sl]at hr);cbv)
     all_goals ((try dsimp only at*);(try simp only[nc,Int.toNat_natCast,ne_eq,zz]at*);(try simp only[nc]at*))
     all_goals first
      |rfl
      |(simp;done)
      |(rw[gd_set _ _ _ _ _ (by assumption)];done)
      |(rw[gd_set _ _ _ _ _ (by assumption)];rfl)
      |(rw[gd_snoc _ _ _ _ (by assumption)];cases decide (_<out.length)<;>rfl)
      |(rw[gd_snoc _ _ _ _ (by assumption)];done)
      |(simp[List.length_drop];done)
      |(simp[List.length_drop];omega)
      |(rw[gd_drop];congr 1;omega)
      |fail)
  |(have es:stepM p ⟨at_,regs,halts,fault,inp',out⟩=some ⟨at_+1,regs.set (p.getD at_.toNat Dat.d0).a.toNat (opV (p.getD at_.toNat Dat.d0).code (regs.getD (p.getD at_.toNat Dat.d0).a.toNat Dat.d0) (regs.getD (p.getD at_.toNat Dat.d0).b.toNat Dat.d0)),halts,fault,inp',out⟩:=by
     unfold stepM insAt gR
     dsimp only
     repeat (first|rw[if_pos (by omega)]|rw[if_neg (by omega)])
    refine⟨⟨u+1,by omega,⟨at_+1,regs.set (p.getD at_.toNat Dat.d0).a.toNat (opV (p.getD at_.toNat Dat.d0).code (regs.getD (p.getD at_.toNat Dat.d0).a.toNat Dat.d0) (regs.getD (p.getD at_.toNat Dat.d0).b.toNat Dat.d0)),halts,fault,inp',out⟩,⟨by(try dsimp only);omega,by(try dsimp only);omega,by(try rw[List.length_set]);exact o3⟩,by first|exact Nat.le_succ_of_le ho|(rw[List.length_append];exact Nat.succ_le_succ ho),by first|exact hi|(rw[List.length_drop];omega),run_next (by omega) (by assumption) (by assumption) es hrun⟩, ?_, ?_,rfl,by(try dsimp only);omega⟩
    ·cbv
     repeat' first|(refine Stp.mk ?_;cbv)|(refine Gen.mk fun r hr=> ?_;(try simp only[Dat.ok,Dat.dec,Leaf.ok,Leaf.val,Z0,Z1,Z2,Z3,Z4,Z5,Z6,Z7,Z8,Z9,Z10,Z11,Z12,Z13,Z14,Z15,Z16,Z17,Z18,Z19,Z20,Z21,Z22,val_sl,val_nil]at hr);cbv)|exact trivial|rfl|refine Both.mk ?_ ?_|(refine Imp.mk fun h=> ?_;(try dsimp only at h);(try simp only[nc,Int.toNat_natCast,ne_eq,zz]at h);(try simp only[nc]at h))|refine Ob.mk ?_ ?_|refine Chk.mk (by kernel_rfl) ?_|refine Eq'.mk ?_|(refine AllN.mk fun i hi=> ?_;cbv)|(refine AllC.mk fun c hc hcm=> ?_;(try dsimp only at hc);cbv)|(refine AllS.mk fun r hr=> ?_;(try simp only[Dat.ok,Dat.dec,Leaf.ok,Leaf.val,Z0,Z1,Z2,Z3,Z4,Z5,Z6,Z7,Z8,Z9,Z10,Z11,Z12,Z13,Z14,Z15,Z16,Z17,Z18,Z19,Z20,Z21,Z22,val_sl]at hr);cbv)
     all_goals first|rfl|simp
    ·cbv
     repeat' first|(refine Stp.mk ?_;cbv)|(refine Gen.mk fun r hr=> ?_;(try simp only[Dat.ok,Dat.dec,Leaf.ok,Leaf.val,Z0,Z1,Z2,Z3,Z4,Z5,Z6,Z7,Z8,Z9,Z10,Z11,Z12,Z13,Z14,Z15,Z16,Z17,Z18,Z19,Z20,Z21,Z22,val_sl,val_nil]at hr);cbv)|exact trivial|rfl|refine Both.mk ?_ ?_|(refine Imp.mk fun h=> ?_;(try dsimp only at h);(try simp only[nc,Int.toNat_natCast,ne_eq,zz]at h);(try simp only[nc]at h))|refine Ob.mk ?_ ?_|refine Chk.mk (by kernel_rfl) ?_|refine Eq'.mk ?_|(refine AllN.mk fun i hi=> ?_;cbv)|(refine AllC.mk fun c hc hcm=> ?_;(try dsimp only at hc);cbv)|(refine AllS.mk fun r hr=> ?_;(try simp only[Dat.ok,Dat.dec,Leaf.ok,Leaf.val,Z0,Z1,Z2,Z3,Z4,Z5,Z6,Z7,Z8,Z9,Z10,Z11,Z12,Z13,Z14,Z15,Z16,Z17,Z18,Z19,Z20,Z21,Z22,val_sl]at hr);cbv)
     all_goals ((try dsimp only at*);(try simp only[nc,Int.toNat_natCast,ne_eq,zz]at*);(try simp only[nc]at*))
     all_goals first
      |rfl
      |(simp;done)
      |(rw[gd_set _ _ _ _ _ (by assumption)];done)
      |(rw[gd_set _ _ _ _ _ (by assumption)];rfl)
      |(rw[gd_snoc _ _ _ _ (by assumption)];cases decide (_<out.length)<;>rfl)
      |(rw[gd_snoc _ _ _ _ (by assumption)];done)
      |(simp[List.length_drop];done)
      |(simp[List.length_drop];omega)
      |(rw[gd_drop];congr 1;omega)
      |fail)
  |(have es:stepM p ⟨at_,regs,halts,fault,inp',out⟩=some ⟨(p.getD at_.toNat Dat.d0).b,regs,halts,fault,inp',out⟩:=by
     unfold stepM insAt gR
     dsimp only
     repeat (first|rw[if_pos (by omega)]|rw[if_neg (by omega)])
    refine⟨⟨u+1,by omega,⟨(p.getD at_.toNat Dat.d0).b,regs,halts,fault,inp',out⟩,⟨by(try dsimp only);omega,by(try dsimp only);omega,by(try rw[List.length_set]);exact o3⟩,by first|exact Nat.le_succ_of_le ho|(rw[List.length_append];exact Nat.succ_le_succ ho),by first|exact hi|(rw[List.length_drop];omega),run_next (by omega) (by assumption) (by assumption) es hrun⟩, ?_, ?_,rfl,by(try dsimp only);omega⟩
    ·cbv
     repeat' first|(refine Stp.mk ?_;cbv)|(refine Gen.mk fun r hr=> ?_;(try simp only[Dat.ok,Dat.dec,Leaf.ok,Leaf.val,Z0,Z1,Z2,Z3,Z4,Z5,Z6,Z7,Z8,Z9,Z10,Z11,Z12,Z13,Z14,Z15,Z16,Z17,Z18,Z19,Z20,Z21,Z22,val_sl,val_nil]at hr);cbv)|exact trivial|rfl|refine Both.mk ?_ ?_|(refine Imp.mk fun h=> ?_;(try dsimp only at h);(try simp only[nc,Int.toNat_natCast,ne_eq,zz]at h);(try simp only[nc]at h))|refine Ob.mk ?_ ?_|refine Chk.mk (by kernel_rfl) ?_|refine Eq'.mk ?_|(refine AllN.mk fun i hi=> ?_;cbv)|(refine AllC.mk fun c hc hcm=> ?_;(try dsimp only at hc);cbv)|(refine AllS.mk fun r hr=> ?_;(try simp only[Dat.ok,Dat.dec,Leaf.ok,Leaf.val,Z0,Z1,Z2,Z3,Z4,Z5,Z6,Z7,Z8,Z9,Z10,Z11,Z12,Z13,Z14,Z15,Z16,Z17,Z18,Z19,Z20,Z21,Z22,val_sl]at hr);cbv)
     all_goals first|rfl|simp
    ·cbv
     repeat' first|(refine Stp.mk ?_;cbv)|(refine Gen.mk fun r hr=> ?_;(try simp only[Dat.ok,Dat.dec,Leaf.ok,Leaf.val,Z0,Z1,Z2,Z3,Z4,Z5,Z6,Z7,Z8,Z9,Z10,Z11,Z12,Z13,Z14,Z15,Z16,Z17,Z18,Z19,Z20,Z21,Z22,val_sl,val_nil]at hr);cbv)|exact trivial|rfl|refine Both.mk ?_ ?_|(refine Imp.mk fun h=> ?_;(try dsimp only at h);(try simp only[nc,Int.toNat_natCast,ne_eq,zz]at h);(try simp only[nc]at h))|refine Ob.mk ?_ ?_|refine Chk.mk (by kernel_rfl) ?_|refine Eq'.mk ?_|(refine AllN.mk fun i hi=> ?_;cbv)|(refine AllC.mk fun c hc hcm=> ?_;(try dsimp only at hc);cbv)|(refine AllS.mk fun r hr=> ?_;(try simp only[Dat.ok,Dat.dec,Leaf.ok,Leaf.val,Z0,Z1,Z2,Z3,Z4,Z5,Z6,Z7,Z8,Z9,Z10,Z11,Z12,Z13,Z14,Z15,Z16,Z17,Z18,Z19,Z20,Z21,Z22,val_sl]at hr);cbv)
     all_goals ((try dsimp only at*);(try simp only[nc,Int.toNat_natCast,ne_eq,zz]at*);(try simp only[nc]at*))
     all_goals first
      |rfl
      |(simp;done)
      |(rw[gd_set _ _ _ _ _ (by assumption)];done)
      |(rw[gd_set _ _ _ _ _ (by assumption)];rfl)
      |(rw[gd_snoc _ _ _ _ (by assumption)];cases decide (_<out.length)<;>rfl)
      |(rw[gd_snoc _ _ _ _ (by assumption)];done)
      |(simp[List.length_drop];done)
      |(simp[List.length_drop];omega)
      |(rw[gd_drop];congr 1;omega)
      |fail)
  |(have es:stepM p ⟨at_,regs,halts,fault,inp',out⟩=some ⟨at_+1,regs,halts,fault,inp',out⟩:=by
     unfold stepM insAt gR
     dsimp only
     repeat (first|rw[if_pos (by omega)]|rw[if_neg (by omega)])
    refine⟨⟨u+1,by omega,⟨at_+1,regs,halts,fault,inp',out⟩,⟨by(try dsimp only);omega,by(try dsimp only);omega,by(try rw[List.length_set]);exact o3⟩,by first|exact Nat.le_succ_of_le ho|(rw[List.length_append];exact Nat.succ_le_succ ho),by first|exact hi|(rw[List.length_drop];omega),run_next (by omega) (by assumption) (by assumption) es hrun⟩, ?_, ?_,rfl,by(try dsimp only);omega⟩
    ·cbv
     repeat' first|(refine Stp.mk ?_;cbv)|(refine Gen.mk fun r hr=> ?_;(try simp only[Dat.ok,Dat.dec,Leaf.ok,Leaf.val,Z0,Z1,Z2,Z3,Z4,Z5,Z6,Z7,Z8,Z9,Z10,Z11,Z12,Z13,Z14,Z15,Z16,Z17,Z18,Z19,Z20,Z21,Z22,val_sl,val_nil]at hr);cbv)|exact trivial|rfl|refine Both.mk ?_ ?_|(refine Imp.mk fun h=> ?_;(try dsimp only at h);(try simp only[nc,Int.toNat_natCast,ne_eq,zz]at h);(try simp only[nc]at h))|refine Ob.mk ?_ ?_|refine Chk.mk (by kernel_rfl) ?_|refine Eq'.mk ?_|(refine AllN.mk fun i hi=> ?_;cbv)|(refine AllC.mk fun c hc hcm=> ?_;(try dsimp only at hc);cbv)|(refine AllS.mk fun r hr=> ?_;(try simp only[Dat.ok,Dat.dec,Leaf.ok,Leaf.val,Z0,Z1,Z2,Z3,Z4,Z5,Z6,Z7,Z8,Z9,Z10,Z11,Z12,Z13,Z14,Z15,Z16,Z17,Z18,Z19,Z20,Z21,Z22,val_sl]at hr);cbv)
     all_goals first|rfl|simp
    ·cbv
     repeat' first|(refine Stp.mk ?_;cbv)|(refine Gen.mk fun r hr=> ?_;(try simp only[Dat.ok,Dat.dec,Leaf.ok,Leaf.val,Z0,Z1,Z2,Z3,Z4,Z5,Z6,Z7,Z8,Z9,Z10,Z11,Z12,Z13,Z14,Z15,Z16,Z17,Z18,Z19,Z20,Z21,Z22,val_sl,val_nil]at hr);cbv)|exact trivial|rfl|refine Both.mk ?_ ?_|(refine Imp.mk fun h=> ?_;(try dsimp only at h);(try simp only[nc,Int.toNat_natCast,ne_eq,zz]at h);(try simp only[nc]at h))|refine Ob.mk ?_ ?_|refine Chk.mk (by kernel_rfl) ?_|refine Eq'.mk ?_|(refine AllN.mk fun i hi=> ?_;cbv)|(refine AllC.mk fun c hc hcm=> ?_;(try dsimp only at hc);cbv)|(refine AllS.mk fun r hr=> ?_;(try simp only[Dat.ok,Dat.dec,Leaf.ok,Leaf.val,Z0,Z1,Z2,Z3,Z4,Z5,Z6,Z7,Z8,Z9,Z10,Z11,Z12,Z13,Z14,Z15,Z16,Z17,Z18,Z19,Z20,Z21,Z22,val_sl]at hr);cbv)
     all_goals ((try dsimp only at*);(try simp only[nc,Int.toNat_natCast,ne_eq,zz]at*);(try simp only[nc]at*))
     all_goals first
      |rfl
      |(simp;done)
      |(rw[gd_set _ _ _ _ _ (by assumption)];done)
      |(rw[gd_set _ _ _ _ _ (by assumption)];rfl)
      |(rw[gd_snoc _ _ _ _ (by assumption)];cases decide (_<out.length)<;>rfl)
      |(rw[gd_snoc _ _ _ _ (by assumption)];done)
      |(simp[List.length_drop];done)
      |(simp[List.length_drop];omega)
      |(rw[gd_drop];congr 1;omega)
      |fail)
  |(have es:stepM p ⟨at_,regs,halts,fault,inp',out⟩=some ⟨at_+1,regs.set (p.getD at_.toNat Dat.d0).a.toNat (inp'.getD 0 Dat.d0),halts,fault,inp'.drop 1,out⟩:=by
     unfold stepM insAt gR
     dsimp only
     repeat (first|rw[if_pos (by omega)]|rw[if_neg (by omega)])
    refine⟨⟨u+1,by omega,⟨at_+1,regs.set (p.getD at_.toNat Dat.d0).a.toNat (inp'.getD 0 Dat.d0),halts,fault,inp'.drop 1,out⟩,⟨by(try dsimp only);omega,by(try dsimp only);omega,by(try rw[List.length_set]);exact o3⟩,by first|exact Nat.le_succ_of_le ho|(rw[List.length_append];exact Nat.succ_le_succ ho),by first|exact hi|(rw[List.length_drop];omega),run_next (by omega) (by assumption) (by assumption) es hrun⟩, ?_, ?_,rfl,by(try dsimp only);omega⟩
    ·cbv
     repeat' first|(refine Stp.mk ?_;cbv)|(refine Gen.mk fun r hr=> ?_;(try simp only[Dat.ok,Dat.dec,Leaf.ok,Leaf.val,Z0,Z1,Z2,Z3,Z4,Z5,Z6,Z7,Z8,Z9,Z10,Z11,Z12,Z13,Z14,Z15,Z16,Z17,Z18,Z19,Z20,Z21,Z22,val_sl,val_nil]at hr);cbv)|exact trivial|rfl|refine Both.mk ?_ ?_|(refine Imp.mk fun h=> ?_;(try dsimp only at h);(try simp only[nc,Int.toNat_natCast,ne_eq,zz]at h);(try simp only[nc]at h))|refine Ob.mk ?_ ?_|refine Chk.mk (by kernel_rfl) ?_|refine Eq'.mk ?_|(refine AllN.mk fun i hi=> ?_;cbv)|(refine AllC.mk fun c hc hcm=> ?_;(try dsimp only at hc);cbv)|(refine AllS.mk fun r hr=> ?_;(try simp only[Dat.ok,Dat.dec,Leaf.ok,Leaf.val,Z0,Z1,Z2,Z3,Z4,Z5,Z6,Z7,Z8,Z9,Z10,Z11,Z12,Z13,Z14,Z15,Z16,Z17,Z18,Z19,Z20,Z21,Z22,val_sl]at hr);cbv)
     all_goals first|rfl|simp
    ·cbv
     repeat' first|(refine Stp.mk ?_;cbv)|(refine Gen.mk fun r hr=> ?_;(try simp only[Dat.ok,Dat.dec,Leaf.ok,Leaf.val,Z0,Z1,Z2,Z3,Z4,Z5,Z6,Z7,Z8,Z9,Z10,Z11,Z12,Z13,Z14,Z15,Z16,Z17,Z18,Z19,Z20,Z21,Z22,val_sl,val_nil]at hr);cbv)|exact trivial|rfl|refine Both.mk ?_ ?_|(refine Imp.mk fun h=> ?_;(try dsimp only at h);(try simp only[nc,Int.toNat_natCast,ne_eq,zz]at h);(try simp only[nc]at h))|refine Ob.mk ?_ ?_|refine Chk.mk (by kernel_rfl) ?_|refine Eq'.mk ?_|(refine AllN.mk fun i hi=> ?_;cbv)|(refine AllC.mk fun c hc hcm=> ?_;(try dsimp only at hc);cbv)|(refine AllS.mk fun r hr=> ?_;(try simp only[Dat.ok,Dat.dec,Leaf.ok,Leaf.val,Z0,Z1,Z2,Z3,Z4,Z5,Z6,Z7,Z8,Z9,Z10,Z11,Z12,Z13,Z14,Z15,Z16,Z17,Z18,Z19,Z20,Z21,Z22,val_sl]at hr);cbv)
     all_goals ((try dsimp only at*);(try simp only[nc,Int.toNat_natCast,ne_eq,zz]at*);(try simp only[nc]at*))
     all_goals first
      |rfl
      |(simp;done)
      |(rw[gd_set _ _ _ _ _ (by assumption)];done)
      |(rw[gd_set _ _ _ _ _ (by assumption)];rfl)
      |(rw[gd_snoc _ _ _ _ (by assumption)];cases decide (_<out.length)<;>rfl)
      |(rw[gd_snoc _ _ _ _ (by assumption)];done)
      |(simp[List.length_drop];done)
      |(simp[List.length_drop];omega)
      |(rw[gd_drop];congr 1;omega)
      |fail)
  |(have es:stepM p ⟨at_,regs,halts,fault,inp',out⟩=some ⟨at_+1,regs,halts,fault,inp',out++[⟨(p.getD at_.toNat Dat.d0).b,regs.getD (p.getD at_.toNat Dat.d0).a.toNat Dat.d0⟩]⟩:=by
     unfold stepM insAt gR
     dsimp only
     repeat (first|rw[if_pos (by omega)]|rw[if_neg (by omega)])
    refine⟨⟨u+1,by omega,⟨at_+1,regs,halts,fault,inp',out++[⟨(p.getD at_.toNat Dat.d0).b,regs.getD (p.getD at_.toNat Dat.d0).a.toNat Dat.d0⟩]⟩,⟨by(try dsimp only);omega,by(try dsimp only);omega,by(try rw[List.length_set]);exact o3⟩,by first|exact Nat.le_succ_of_le ho|(rw[List.length_append];exact Nat.succ_le_succ ho),by first|exact hi|(rw[List.length_drop];omega),run_next (by omega) (by assumption) (by assumption) es hrun⟩, ?_, ?_,rfl,by(try dsimp only);omega⟩
    ·cbv
     repeat' first|(refine Stp.mk ?_;cbv)|(refine Gen.mk fun r hr=> ?_;(try simp only[Dat.ok,Dat.dec,Leaf.ok,Leaf.val,Z0,Z1,Z2,Z3,Z4,Z5,Z6,Z7,Z8,Z9,Z10,Z11,Z12,Z13,Z14,Z15,Z16,Z17,Z18,Z19,Z20,Z21,Z22,val_sl,val_nil]at hr);cbv)|exact trivial|rfl|refine Both.mk ?_ ?_|(refine Imp.mk fun h=> ?_;(try dsimp only at h);(try simp only[nc,Int.toNat_natCast,ne_eq,zz]at h);(try simp only[nc]at h))|refine Ob.mk ?_ ?_|refine Chk.mk (by kernel_rfl) ?_|refine Eq'.mk ?_|(refine AllN.mk fun i hi=> ?_;cbv)|(refine AllC.mk fun c hc hcm=> ?_;(try dsimp only at hc);cbv)|(refine AllS.mk fun r hr=> ?_;(try simp only[Dat.ok,Dat.dec,Leaf.ok,Leaf.val,Z0,Z1,Z2,Z3,Z4,Z5,Z6,Z7,Z8,Z9,Z10,Z11,Z12,Z13,Z14,Z15,Z16,Z17,Z18,Z19,Z20,Z21,Z22,val_sl]at hr);cbv)
     all_goals first|rfl|simp
    ·cbv
     repeat' first|(refine Stp.mk ?_;cbv)|(refine Gen.mk fun r hr=> ?_;(try simp only[Dat.ok,Dat.dec,Leaf.ok,Leaf.val,Z0,Z1,Z2,Z3,Z4,Z5,Z6,Z7,Z8,Z9,Z10,Z11,Z12,Z13,Z14,Z15,Z16,Z17,Z18,Z19,Z20,Z21,Z22,val_sl,val_nil]at hr);cbv)|exact trivial|rfl|refine Both.mk ?_ ?_|(refine Imp.mk fun h=> ?_;(try dsimp only at h);(try simp only[nc,Int.toNat_natCast,ne_eq,zz]at h);(try simp only[nc]at h))|refine Ob.mk ?_ ?_|refine Chk.mk (by kernel_rfl) ?_|refine Eq'.mk ?_|(refine AllN.mk fun i hi=> ?_;cbv)|(refine AllC.mk fun c hc hcm=> ?_;(try dsimp only at hc);cbv)|(refine AllS.mk fun r hr=> ?_;(try simp only[Dat.ok,Dat.dec,Leaf.ok,Leaf.val,Z0,Z1,Z2,Z3,Z4,Z5,Z6,Z7,Z8,Z9,Z10,Z11,Z12,Z13,Z14,Z15,Z16,Z17,Z18,Z19,Z20,Z21,Z22,val_sl]at hr);cbv)
     all_goals ((try dsimp only at*);(try simp only[nc,Int.toNat_natCast,ne_eq,zz]at*);(try simp only[nc]at*))
     all_goals first
      |rfl
      |(simp;done)
      |(rw[gd_set _ _ _ _ _ (by assumption)];done)
      |(rw[gd_set _ _ _ _ _ (by assumption)];rfl)
      |(rw[gd_snoc _ _ _ _ (by assumption)];cases decide (_<out.length)<;>rfl)
      |(rw[gd_snoc _ _ _ _ (by assumption)];done)
      |(simp[List.length_drop];done)
      |(simp[List.length_drop];omega)
      |(rw[gd_drop];congr 1;omega)
      |fail)
  |(have es:stepM p ⟨at_,regs,halts,fault,inp',out⟩=some ⟨at_,regs,true,fault,inp',out⟩:=by
     unfold stepM insAt gR
     dsimp only
     repeat (first|rw[if_pos (by omega)]|rw[if_neg (by omega)])
    refine⟨⟨u+1,by omega,⟨at_,regs,true,fault,inp',out⟩,⟨by(try dsimp only);omega,by(try dsimp only);omega,by(try rw[List.length_set]);exact o3⟩,by first|exact Nat.le_succ_of_le ho|(rw[List.length_append];exact Nat.succ_le_succ ho),by first|exact hi|(rw[List.length_drop];omega),run_next (by omega) (by assumption) (by assumption) es hrun⟩, ?_, ?_,rfl,by(try dsimp only);omega⟩
    ·cbv
     repeat' first|(refine Stp.mk ?_;cbv)|(refine Gen.mk fun r hr=> ?_;(try simp only[Dat.ok,Dat.dec,Leaf.ok,Leaf.val,Z0,Z1,Z2,Z3,Z4,Z5,Z6,Z7,Z8,Z9,Z10,Z11,Z12,Z13,Z14,Z15,Z16,Z17,Z18,Z19,Z20,Z21,Z22,val_sl,val_nil]at hr);cbv)|exact trivial|rfl|refine Both.mk ?_ ?_|(refine Imp.mk fun h=> ?_;(try dsimp only at h);(try simp only[nc,Int.toNat_natCast,ne_eq,zz]at h);(try simp only[nc]at h))|refine Ob.mk ?_ ?_|refine Chk.mk (by kernel_rfl) ?_|refine Eq'.mk ?_|(refine AllN.mk fun i hi=> ?_;cbv)|(refine AllC.mk fun c hc hcm=> ?_;(try dsimp only at hc);cbv)|(refine AllS.mk fun r hr=> ?_;(try simp only[Dat.ok,Dat.dec,Leaf.ok,Leaf.val,Z0,Z1,Z2,Z3,Z4,Z5,Z6,Z7,Z8,Z9,Z10,Z11,Z12,Z13,Z14,Z15,Z16,Z17,Z18,Z19,Z20,Z21,Z22,val_sl]at hr);cbv)
     all_goals first|rfl|simp
    ·cbv
     repeat' first|(refine Stp.mk ?_;cbv)|(refine Gen.mk fun r hr=> ?_;(try simp only[Dat.ok,Dat.dec,Leaf.ok,Leaf.val,Z0,Z1,Z2,Z3,Z4,Z5,Z6,Z7,Z8,Z9,Z10,Z11,Z12,Z13,Z14,Z15,Z16,Z17,Z18,Z19,Z20,Z21,Z22,val_sl,val_nil]at hr);cbv)|exact trivial|rfl|refine Both.mk ?_ ?_|(refine Imp.mk fun h=> ?_;(try dsimp only at h);(try simp only[nc,Int.toNat_natCast,ne_eq,zz]at h);(try simp only[nc]at h))|refine Ob.mk ?_ ?_|refine Chk.mk (by kernel_rfl) ?_|refine Eq'.mk ?_|(refine AllN.mk fun i hi=> ?_;cbv)|(refine AllC.mk fun c hc hcm=> ?_;(try dsimp only at hc);cbv)|(refine AllS.mk fun r hr=> ?_;(try simp only[Dat.ok,Dat.dec,Leaf.ok,Leaf.val,Z0,Z1,Z2,Z3,Z4,Z5,Z6,Z7,Z8,Z9,Z10,Z11,Z12,Z13,Z14,Z15,Z16,Z17,Z18,Z19,Z20,Z21,Z22,val_sl]at hr);cbv)
     all_goals ((try dsimp only at*);(try simp only[nc,Int.toNat_natCast,ne_eq,zz]at*);(try simp only[nc]at*))
     all_goals first
      |rfl
      |(simp;done)
      |(rw[gd_set _ _ _ _ _ (by assumption)];done)
      |(rw[gd_set _ _ _ _ _ (by assumption)];rfl)
      |(rw[gd_snoc _ _ _ _ (by assumption)];cases decide (_<out.length)<;>rfl)
      |(rw[gd_snoc _ _ _ _ (by assumption)];done)
      |(simp[List.length_drop];done)
      |(simp[List.length_drop];omega)
      |(rw[gd_drop];congr 1;omega)
      |fail)
  |(refine fin1 _ _ _ ⟨at_,regs,halts,fault,inp',out⟩ u _ _ herr ?_
    rw[hrun]
    obtain hz|⟨f,hz⟩:(fuel-u).toNat=0∨∃f,(fuel-u).toNat=f+1:=by
     cases h:(fuel-u).toNat with
     |zero=>exact .inl rfl
     |succ f=>exact .inr ⟨f,rfl⟩
    ·rw[hz,runM];simp
    ·rw[hz,runM]
     have es:halts=false→fault=false→stepM p ⟨at_,regs,halts,fault,inp',out⟩=none:=fun q1 q2=>by
      unfold stepM insAt gR
      dsimp only
      first
       |(exfalso;simp_all;done)
       |(exfalso;omega)
       |(repeat (first|rw[if_pos (by omega)]|rw[if_neg (by omega)]))
     cases hh:halts<;>cases hf:fault<;>simp_all)
  |fail
end Go.Proofs.YtiaiifcgbjlfoaaGreatDoor
