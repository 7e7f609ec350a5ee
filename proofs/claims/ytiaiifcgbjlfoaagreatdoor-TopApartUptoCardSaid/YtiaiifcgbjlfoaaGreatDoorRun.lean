/- The program's functions, walked: Run. -/
import Derived.Test.YtiaiifcgbjlfoaaGreatDoorVm
set_option linter.all false
namespace Go.Proofs.YtiaiifcgbjlfoaaGreatDoor
open Go Go.Abs
structure Mac where
 at_:Int
 regs:List Int
 halts:Bool
 fault:Bool
 inp:List Int
 out:List Emit
def opV (code x y:Int):Int:=IntKind.i64.wrap (qWg code (IntKind.i32.wrap x) (IntKind.i32.wrap y))
def qAd (p:List Ins) (m:Mac):Ins:=p.getD m.at_.toNat Dat.d0
def gR (m:Mac) (k:Int):Int:=m.regs.getD k.toNat Dat.d0
def qAF (p:List Ins) (m:Mac):Option Mac:=
 if m.at_=p.length then some {m with fault:=true}else
 if(qAd p m).code=1 then some {m with regs:=m.regs.set (qAd p m).a.toNat (qAd p m).b,at_:=m.at_+1}else
 if(qAd p m).code=2∨(qAd p m).code=3∨(qAd p m).code=4∨(qAd p m).code=5 then some {m with regs:=m.regs.set (qAd p m).a.toNat (opV (qAd p m).code (gR m (qAd p m).a) (gR m (qAd p m).b)),at_:=m.at_+1}else
 if(qAd p m).code=6 then some {m with at_:=(qAd p m).b}else
 if(qAd p m).code=7 then some {m with at_:=if gR m (qAd p m).a=0 then(qAd p m).b else m.at_+1}else
 if(qAd p m).code=8 then some {m with at_:=if gR m (qAd p m).a<0 then(qAd p m).b else m.at_+1}else
 if(qAd p m).code=9 then(if m.inp.length=0 then none else some {m with regs:=m.regs.set (qAd p m).a.toNat (m.inp.getD 0 Dat.d0),inp:=m.inp.drop 1,at_:=m.at_+1})else
 if(qAd p m).code=10 then some {m with out:=m.out++[⟨(qAd p m).b,gR m (qAd p m).a⟩],at_:=m.at_+1}else
 if(qAd p m).code=11 then some {m with halts:=true}else some {m with at_:=m.at_+1}
def qAy (p:List Ins):Nat→Mac→Mac×Int
 |0,m=>(m,0)
 |f+1,m=>if m.halts=true then(m,0)else if m.fault=true then(m,0)else match qAF p m with
  |none=>(m,0)
  |some m'=>((qAy p f m').1,(qAy p f m').2+1)
def qFe (p:List Ins) (v:Vm) (inp:List Int) (fuel:Int):Int:=
 if qAn p=0 then(if qA1 v=0 then(if(p.length:Int)<v.at_ then 4 else if inp.any (fun n=> !qC5 n)=true then 4 else if qIB fuel 0 5000=true then(if 5000<inp.length then 2 else 0)else 1)else qA1 v)else qAn p
def qCe (v:Vm) (inp:List Int):Mac:=⟨v.at_,v.regs,v.halts,v.fault,inp,[]⟩
def qAH (p:List Ins) (v:Vm) (inp:List Int) (fuel:Int):Vm×List Emit×Int×Int×Int:=
 if qFe p v inp fuel=0 then(⟨(qAy p fuel.toNat (qCe v inp)).1.at_,(qAy p fuel.toNat (qCe v inp)).1.regs,(qAy p fuel.toNat (qCe v inp)).1.halts,(qAy p fuel.toNat (qCe v inp)).1.fault⟩,(qAy p fuel.toNat (qCe v inp)).1.out,inp.length-(qAy p fuel.toNat (qCe v inp)).1.inp.length,(qAy p fuel.toNat (qCe v inp)).2,0)
 else(⟨0,[],false,false⟩,[],0,0,qFe p v inp fuel)
theorem qB4 {v:Vm}(h:qA1 v=0):qIB v.at_ 0 100=true∧v.regs.length=8∧¬(v.halts=true∧v.fault=true)∧v.regs.any (fun n=> !qC5 n)=false:=by
 unfold qA1 at h
 split at h
 ·assumption
 ·cases h
theorem qJJ {p:List Ins}(h:qAn p=0) {k:Nat}(hk:k<p.length):qC6 (p.getD k Dat.d0) p.length=true:=by
 unfold qAn at h
 split at h
 ·cases h
 ·split at h
  ·rename_i h1
   rw[List.all_eq_true]at h1
   have:=h1 (p.getD k Dat.d0) (by rw[List.getD_eq_getElem?_getD,List.getElem?_eq_getElem hk];exact List.getElem_mem hk)
   exact this
  ·cases h
theorem qLW {i:Ins}{L:Int}(h:qC6 i L=true):(i.code≠6→i.code≠11→0≤i.a∧i.a≤7)∧((i.code=2∨i.code=3∨i.code=4∨i.code=5)→0≤i.b∧i.b≤7)∧((i.code=6∨i.code=7∨i.code=8)→0≤i.b∧i.b≤L)∧1≤i.code∧i.code≤11∧(i.code=1→qC5 i.b=true):=by
 unfold qC6 qQD qIB at h
 split at h
 ·simp only[Bool.and_eq_true,decide_eq_true_eq]at h
  exact⟨by omega,by omega,by omega,by omega,by omega,fun _=>h.2⟩
 split at h
 ·simp only[Bool.and_eq_true,decide_eq_true_eq]at h
  exact⟨by omega,by omega,by omega,by omega,by omega,by omega⟩
 split at h
 ·simp only[Bool.and_eq_true,decide_eq_true_eq]at h
  exact⟨by omega,by omega,by omega,by omega,by omega,by omega⟩
 split at h
 ·simp only[Bool.and_eq_true,decide_eq_true_eq]at h
  exact⟨by omega,by omega,by omega,by omega,by omega,by omega⟩
 split at h
 ·simp only[Bool.and_eq_true,decide_eq_true_eq]at h
  exact⟨by omega,by omega,by omega,by omega,by omega,by omega⟩
 split at h
 ·simp only[Bool.and_eq_true,decide_eq_true_eq]at h
  exact⟨by omega,by omega,by omega,by omega,by omega,by omega⟩
 split at h
 ·simp only[Bool.and_eq_true,decide_eq_true_eq]at h
  exact⟨by omega,by omega,by omega,by omega,by omega,by omega⟩
 ·cases h
theorem qCf {p:List Ins}{m m':Mac}{fuel:Int}{u:Nat}{r:Mac×Int}(hu:(u:Int)<fuel) (hh:m.halts=false) (hf:m.fault=false) (hs:qAF p m=some m') (hr:r=((qAy p (fuel-u).toNat m).1,(qAy p (fuel-u).toNat m).2+u)):
  r=((qAy p (fuel-(u+1:Nat)).toNat m').1,(qAy p (fuel-(u+1:Nat)).toNat m').2+(u+1:Nat)):=by
 rw[hr]
 obtain⟨f,hfu⟩:∃f,(fuel-u).toNat=f+1:=⟨(fuel-u).toNat-1,by omega⟩
 rw[show(fuel-(u+1:Nat)).toNat=f by omega,hfu,qAy,if_neg (by rw[hh];decide),if_neg (by rw[hf];decide),hs]
 dsimp only
 congr 1
 omega
structure MOkV (p:List Ins) (m:Mac):Prop where
 a0:0≤m.at_
 a1:m.at_≤p.length
 rg:m.regs.length=8
structure RunX (p:List Ins) (v:Vm) (inp:List Int) (fuel:Int) where
 u:Nat
 hu:(u:Int)≤fuel
 m:Mac
 ok:MOkV p m
 ho:m.out.length≤u
 hi:m.inp.length≤inp.length
 hr:qAy p fuel.toNat (qCe v inp)=((qAy p (fuel-u).toNat m).1,(qAy p (fuel-u).toNat m).2+u)
def qO1 (r:Th ((List Int))):AV:= .own 0 fun _=>(r ()).length
def qO2 (r:Th ((List Int))):Hp:=[qA2 3 fun _=>(r ())]
def qKQ (l:(List Int)):Prop:=l.length≤1099511627776
def qH9:PC:=fun A K=>match A with
 |[l]=>Ob (fun _=>Leaf.ok (List Int) l∧qKQ (Leaf.val l)) (Gen (α:=(List Int)) (fun _=>(Leaf.val l)) fun r=>K (qO1 fun _=>r) (qO2 fun _=>r))
 |_=>Bad 1002
set_option maxRecDepth 100000 in
set_option maxHeartbeats 4000000 in
theorem qLX (l:(List Int)) (hp:qKQ l):qO Tryz.prog 36 [Leaf.av fun _=>l] [] (qAf (qO1 fun _=>l) (qO2 fun _=>l)):=by
 refine qAe qI zl qP qD (keep:=[0,2,4]) Tryz.func36 rfl ?_
 have hp':l.length≤1099511627776:=hp
 cbv
 repeat' first|(refine Stp.mk ?_;cbv)|(refine Gen.mk fun r hr=> ?_;(try simp only[Dat.ok,Dat.dec,Leaf.ok,Leaf.val,Z0,Z1,Z2,Z3,Z4,Z5,Z6,Z7,Z8,Z9,Z10,Z11,Z12,Z13,Z14,qA,qB]at hr);cbv)|exact trivial|rfl|refine Both.mk ?_ ?_|(refine Imp.mk fun h=> ?_;(try dsimp only at h);(try simp only[nc,Int.toNat_natCast,ne_eq,zz]at h);(try simp only[nc]at h))|refine Ob.mk ?_ ?_|refine Chk.mk (by kernel_rfl) ?_|refine Eq'.mk ?_|(refine AllN.mk fun i hi=> ?_;cbv)|(refine AllC.mk fun c hc hcm=> ?_;(try dsimp only at hc);cbv)|(refine AllS.mk fun r hr=> ?_;(try simp only[Dat.ok,Dat.dec,Leaf.ok,Leaf.val,Z0,Z1,Z2,Z3,Z4,Z5,Z6,Z7,Z8,Z9,Z10,Z11,Z12,Z13,Z14,qA]at hr);cbv)
 all_goals ((try dsimp only at*);(try simp only[nc,Int.toNat_natCast,ne_eq,zz]at*);(try simp only[nc]at*))
 all_goals first
  |omega
  |(exact⟨Nat.le_refl _,trivial,by omega,by omega⟩)
  |(simp only[Nat.zero_add,Nat.sub_zero,Nat.not_lt_zero,decide_false,cond_false];done)
  |(simp_all;done)
  |fail
theorem qLY:qBf Tryz.prog 36 (qH9):=fun A K h=>by
 unfold qH9 at h
 split at h
 ·rename_i l
  cases h with
  |mk h1 h2=>
   obtain⟨g0,hp⟩:=h1
   refine qO.pre ?_ (A':=[Leaf.av fun _=>(Leaf.val l:(List Int))]) (.mk (Leaf.hle _ g0) (trivial))
   exact qO.out (K:=fun r H _=>K r H) (qLX (Leaf.val l) hp) rfl h2.out
 ·cases h
noncomputable def cR1:FuncId→Con:=fun f=>match f with
 |71=>qH (qM qLS)
 |_=>fun _ _ _=>Bad 1001
theorem qWz:qY Tryz.prog cR1:=fun f A H K h=>by
 unfold cR1 at h
 split at h
 ·exact⟨⟨Tryz.f71,Tryz.func71,by kernel_rfl,by kernel_rfl⟩,qE qOL h⟩
 ·cases h
def dR1:FuncId→Option Dt:=fun f=>match f with
 |71=>some (.c qLS)
 |_=>none
theorem qWA:qBk Tryz.prog dR1:=fun f d h=>by
 unfold dR1 at h
 split at h
 ·cases h;exact⟨⟨Tryz.f71,Tryz.func71,by kernel_rfl,by kernel_rfl⟩,qOL⟩
 ·cases h
noncomputable def cR2:FuncId→Con:=fun f=>match f with
 |30=>qH (qM qDr)
 |31=>qH (qM qEh)
 |35=>qH (qM qMU)
 |36=>qH qH9
 |32=>qAg E cV6 qAa [0,1,4] Tryz.f32
 |37=>qAg E cR1 (qHK E dR1) [0,2,3,4,5,16,44,45,53,78,82,89,92,99,102,109,128,147] Tryz.f37
 |_=>fun _ _ _=>Bad 1001
theorem qWB:qY Tryz.prog cR2:=fun f A H K h=>by
 unfold cR2 at h
 split at h
 ·exact⟨⟨Tryz.f30,Tryz.func30,by kernel_rfl,by kernel_rfl⟩,qE qEf h⟩
 ·exact⟨⟨Tryz.f31,Tryz.func31,by kernel_rfl,by kernel_rfl⟩,qE qHc h⟩
 ·exact⟨⟨Tryz.f35,Tryz.func35,by kernel_rfl,by kernel_rfl⟩,qE qLO h⟩
 ·exact⟨⟨Tryz.f36,Tryz.func36,by kernel_rfl,by kernel_rfl⟩,qE qLY h⟩
 ·exact⟨⟨Tryz.f32,Tryz.func32,by kernel_rfl,by kernel_rfl⟩,qAi qI zl qSg qD Tryz.func32 h⟩
 ·exact⟨⟨Tryz.f37,Tryz.func37,by kernel_rfl,by kernel_rfl⟩,qAi qI zl qWz (qAb qI zl qWA mixed) Tryz.func37 h⟩
 ·cases h
def qQS (r:Th (Vm×(List Emit)×Int×Int×Int)):AV:= .tup [.agg [.i .i64 fun _=>(r ()).1.at_,.own 0 fun _=>(r ()).1.regs.length,.b fun _=>(r ()).1.halts,.b fun _=>(r ()).1.fault],.own 1 fun _=>(r ()).2.1.length,.i .i64 fun _=>(r ()).2.2.1,.i .i64 fun _=>(r ()).2.2.2.1,.i .i64 fun _=>(r ()).2.2.2.2]
def qQT (r:Th (Vm×(List Emit)×Int×Int×Int)):Hp:=[qA2 3 fun _=>(r ()).1.regs,qA2 78 fun _=>(r ()).2.1]
def qWC (p:(List Ins)) (v:Vm) (inp:(List Int)) (fuel:Int):Prop:=p.length≤9223372036854775807∧v.regs.length≤9223372036854775807∧inp.length≤9223372036854775807
theorem qLZ {p:List Ins}{v:Vm}{inp:List Int}{fuel e:Int}(h:qFe p v inp fuel=e) (h0:¬e=0):qAH p v inp fuel=(⟨0,[],false,false⟩,[],0,0,e):=by
 rw[qAH,h,if_neg h0]
theorem qTC {p:List Ins}{v:Vm}{inp:List Int}{fuel:Int}(h:qFe p v inp fuel=0) {m:Mac}{u:Int}(hr:qAy p fuel.toNat (qCe v inp)=(m,u)):qAH p v inp fuel=(⟨m.at_,m.regs,m.halts,m.fault⟩,m.out,(inp.length:Int)-(m.inp.length:Int),u,0):=by
 rw[qAH,h,if_pos rfl,hr]
set_option maxRecDepth 100000 in
set_option maxHeartbeats 4000000 in
theorem qWD (p:(List Ins)) (v:Vm) (inp:(List Int)) (fuel:Int) (hp:qWC p v inp fuel):qO Tryz.prog 10 [Leaf.av fun _=>p,.agg (Dat.enc fun _=>v),Leaf.av fun _=>inp,.i .i64 fun _=>fuel] [] (qAf (qQS fun _=>qAH p v inp fuel) (qQT fun _=>qAH p v inp fuel)):=by
 refine qAe qI zl qWB (qAb qI zl qEd mixed) (keep:=[0,1,2,3,5,8,9,10,11,12,13,14,15,19,22,25,35,39,44,73]) Tryz.func10 rfl ?_
 obtain⟨hp1,hp2,hp3⟩:p.length≤9223372036854775807∧v.regs.length≤9223372036854775807∧inp.length≤9223372036854775807:=hp
 have fin0:∀e H kl,qFe p v inp fuel=e→¬e=0→qAf (qQS fun _=>qAH p v inp fuel) (qQT fun _=>qAH p v inp fuel) (.tup [.agg [.i .i64 fun _=>0,.nil,.bc false,.bc false],.nil,.i .i64 fun _=>0,.i .i64 fun _=>0,.i .i64 fun _=>e]) H kl:=by
  intro e H kl h h0
  rw[qLZ h h0]
  cbv
  repeat' first|(refine Stp.mk ?_;cbv)|(refine Gen.mk fun r hr=> ?_;(try simp only[Dat.ok,Dat.dec,Leaf.ok,Leaf.val,Z0,Z1,Z2,Z3,Z4,Z5,Z6,Z7,Z8,Z9,Z10,Z11,Z12,Z13,Z14,qA,qB]at hr);cbv)|exact trivial|rfl|refine Both.mk ?_ ?_|(refine Imp.mk fun h=> ?_;(try dsimp only at h);(try simp only[nc,Int.toNat_natCast,ne_eq,zz]at h);(try simp only[nc]at h))|refine Ob.mk ?_ ?_|refine Chk.mk (by kernel_rfl) ?_|refine Eq'.mk ?_|(refine AllN.mk fun i hi=> ?_;cbv)|(refine AllC.mk fun c hc hcm=> ?_;(try dsimp only at hc);cbv)|(refine AllS.mk fun r hr=> ?_;(try simp only[Dat.ok,Dat.dec,Leaf.ok,Leaf.val,Z0,Z1,Z2,Z3,Z4,Z5,Z6,Z7,Z8,Z9,Z10,Z11,Z12,Z13,Z14,qA]at hr);cbv)
  all_goals exact absurd hi (Nat.not_lt_zero _)
 have fin1:∀x0 x1 x2 (m:Mac) (u:Int) H kl,qFe p v inp fuel=0→qAy p fuel.toNat (qCe v inp)=(m,u)→qAf (qQS fun _=>qAH p v inp fuel) (qQT fun _=>qAH p v inp fuel)
   (.tup [.agg [.i .i64 fun _=>m.at_,.own 3 fun _=>m.regs.length,.b fun _=>m.halts,.b fun _=>m.fault],.own 4 fun _=>m.out.length,.i .i64 fun _=>inp.length-m.inp.length,.i .i64 fun _=>u,.i .i64 fun _=>0])
   (x0::x1::x2::qA2 3 (fun _=>m.regs)::qA2 78 (fun _=>m.out)::H) kl:=by
  intro x0 x1 x2 m u H kl h0 h
  rw[qTC h0 h]
  cbv
  repeat' first|(refine Stp.mk ?_;cbv)|(refine Gen.mk fun r hr=> ?_;(try simp only[Dat.ok,Dat.dec,Leaf.ok,Leaf.val,Z0,Z1,Z2,Z3,Z4,Z5,Z6,Z7,Z8,Z9,Z10,Z11,Z12,Z13,Z14,qA,qB]at hr);cbv)|exact trivial|rfl|refine Both.mk ?_ ?_|(refine Imp.mk fun h=> ?_;(try dsimp only at h);(try simp only[nc,Int.toNat_natCast,ne_eq,zz]at h);(try simp only[nc]at h))|refine Ob.mk ?_ ?_|refine Chk.mk (by kernel_rfl) ?_|refine Eq'.mk ?_|(refine AllN.mk fun i hi=> ?_;cbv)|(refine AllC.mk fun c hc hcm=> ?_;(try dsimp only at hc);cbv)|(refine AllS.mk fun r hr=> ?_;(try simp only[Dat.ok,Dat.dec,Leaf.ok,Leaf.val,Z0,Z1,Z2,Z3,Z4,Z5,Z6,Z7,Z8,Z9,Z10,Z11,Z12,Z13,Z14,qA]at hr);cbv)
 generalize qAf (qQS fun _=>qAH p v inp fuel) (qQT fun _=>qAH p v inp fuel)=K at fin0 fin1
 cbv
 repeat' first|(show Stp _;exfalso;first|omega|(exact h ‹_›)|(exact absurd ‹_› h)|(exact Bool.false_ne_true (h.symm.trans (show _=true by assumption))))|(refine Stp.mk ?_;cbv)|(refine Gen.mk fun r hr=> ?_;(try simp only[Dat.ok,Dat.dec,Leaf.ok,Leaf.val,Z0,Z1,Z2,Z3,Z4,Z5,Z6,Z7,Z8,Z9,Z10,Z11,Z12,Z13,Z14,qA,qB]at hr);cbv)|exact trivial|rfl|refine Both.mk ?_ ?_|(refine Imp.mk fun h=> ?_;(try dsimp only at h);(try simp only[nc,Int.toNat_natCast,ne_eq,zz]at h);(try simp only[nc]at h))|refine Ob.mk ?_ ?_|refine Chk.mk (by kernel_rfl) ?_|refine Eq'.mk ?_|(refine AllN.mk fun i hi=> ?_;cbv)|(refine AllC.mk fun c hc hcm=> ?_;(try dsimp only at hc);cbv)|(refine AllS.mk fun r hr=> ?_;(try simp only[Dat.ok,Dat.dec,Leaf.ok,Leaf.val,Z0,Z1,Z2,Z3,Z4,Z5,Z6,Z7,Z8,Z9,Z10,Z11,Z12,Z13,Z14,qA]at hr);cbv)
 all_goals ((try dsimp only at*);(try simp only[nc,Int.toNat_natCast,ne_eq,zz]at*);(try simp only[nc]at*))
 all_goals try simp only[Dat.ok,Dat.dec,Leaf.ok,Leaf.val,Z0,Z1,Z2,Z3,Z4,Z5,Z6,Z7,Z8,Z9,Z10,Z11,Z12,Z13,Z14,qA]at*
 all_goals first
  |exact⟨⟨rfl,fun i _=>Dat.hok _⟩,hp1⟩
  |exact⟨⟨trivial,⟨rfl,fun i _=>Dat.hok _⟩,trivial,trivial⟩,hp2⟩
  |(refine fin0 _ _ _ ?_ (by assumption)
    unfold qFe
    first
     |(rw[if_neg (by assumption)];done)
     |(rw[if_pos (by assumption),if_neg (by assumption)];done)
     |(rw[if_pos (by assumption),if_pos (by assumption),if_pos (by assumption)];done))
  |skip
 refine LoopVC.frame [4,5,8,9,16] (AnyI inp) (fun x=>[(8,.i .i64 fun _=>x.k)]) (fun _=>[]) [] (fun x=>inp.length-x.k) ⟨0,Nat.zero_le _,by simp⟩ rfl (fun _=>rfl) ?_ ?_ fun⟨k,hk,hr⟩=> ?_
 iterate 2
  ·cbv
   repeat' first|(refine Stp.mk ?_;cbv)|(refine Gen.mk fun r hr=> ?_;(try simp only[Dat.ok,Dat.dec,Leaf.ok,Leaf.val,Z0,Z1,Z2,Z3,Z4,Z5,Z6,Z7,Z8,Z9,Z10,Z11,Z12,Z13,Z14,qA,qB]at hr);cbv)|exact trivial|rfl|refine Both.mk ?_ ?_|(refine Imp.mk fun h=> ?_;(try dsimp only at h);(try simp only[nc,Int.toNat_natCast,ne_eq,zz]at h);(try simp only[nc]at h))|refine Ob.mk ?_ ?_|refine Chk.mk (by kernel_rfl) ?_|refine Eq'.mk ?_|(refine AllN.mk fun i hi=> ?_;cbv)|(refine AllC.mk fun c hc hcm=> ?_;(try dsimp only at hc);cbv)|(refine AllS.mk fun r hr=> ?_;(try simp only[Dat.ok,Dat.dec,Leaf.ok,Leaf.val,Z0,Z1,Z2,Z3,Z4,Z5,Z6,Z7,Z8,Z9,Z10,Z11,Z12,Z13,Z14,qA]at hr);cbv)
 cbv
 repeat' first|(show Stp _;exfalso;first|omega|(exact h ‹_›)|(exact absurd ‹_› h)|(exact Bool.false_ne_true (h.symm.trans (show _=true by assumption))))|(refine Stp.mk ?_;cbv)|(refine Gen.mk fun r hr=> ?_;(try simp only[Dat.ok,Dat.dec,Leaf.ok,Leaf.val,Z0,Z1,Z2,Z3,Z4,Z5,Z6,Z7,Z8,Z9,Z10,Z11,Z12,Z13,Z14,qA,qB]at hr);cbv)|exact trivial|rfl|refine Both.mk ?_ ?_|(refine Imp.mk fun h=> ?_;(try dsimp only at h);(try simp only[nc,Int.toNat_natCast,ne_eq,zz]at h);(try simp only[nc]at h))|refine Ob.mk ?_ ?_|refine Chk.mk (by kernel_rfl) ?_|refine Eq'.mk ?_|(refine AllN.mk fun i hi=> ?_;cbv)|(refine AllC.mk fun c hc hcm=> ?_;(try dsimp only at hc);cbv)|(refine AllS.mk fun r hr=> ?_;(try simp only[Dat.ok,Dat.dec,Leaf.ok,Leaf.val,Z0,Z1,Z2,Z3,Z4,Z5,Z6,Z7,Z8,Z9,Z10,Z11,Z12,Z13,Z14,qA]at hr);cbv)
 all_goals ((try dsimp only at*);(try simp only[nc,Int.toNat_natCast,ne_eq,zz]at*);(try simp only[nc]at*))
 all_goals try simp only[Dat.ok,Dat.dec,Leaf.ok,Leaf.val,Z0,Z1,Z2,Z3,Z4,Z5,Z6,Z7,Z8,Z9,Z10,Z11,Z12,Z13,Z14,qA]at*
 all_goals first
  |omega
  |(unfold InR;omega)
  |exact⟨⟨rfl,fun i _=>Dat.hok _⟩,show v.regs.length≤1099511627776 by have:=(qB4 (show qA1 v=0 by assumption)).2.1;omega⟩
  |(have hb:qC5 (inp.getD k Dat.d0)=true:=by assumption
    refine⟨⟨k+1,by omega,by rw[hr,qX Dat.d0 (by omega),List.any_cons,hb];rfl⟩, ?_, ?_,rfl,by(try dsimp only);omega⟩
    ·cbv
     repeat' first|(refine Stp.mk ?_;cbv)|(refine Gen.mk fun r hr=> ?_;(try simp only[Dat.ok,Dat.dec,Leaf.ok,Leaf.val,Z0,Z1,Z2,Z3,Z4,Z5,Z6,Z7,Z8,Z9,Z10,Z11,Z12,Z13,Z14,qA,qB]at hr);cbv)|exact trivial|rfl|refine Both.mk ?_ ?_|(refine Imp.mk fun h=> ?_;(try dsimp only at h);(try simp only[nc,Int.toNat_natCast,ne_eq,zz]at h);(try simp only[nc]at h))|refine Ob.mk ?_ ?_|refine Chk.mk (by kernel_rfl) ?_|refine Eq'.mk ?_|(refine AllN.mk fun i hi=> ?_;cbv)|(refine AllC.mk fun c hc hcm=> ?_;(try dsimp only at hc);cbv)|(refine AllS.mk fun r hr=> ?_;(try simp only[Dat.ok,Dat.dec,Leaf.ok,Leaf.val,Z0,Z1,Z2,Z3,Z4,Z5,Z6,Z7,Z8,Z9,Z10,Z11,Z12,Z13,Z14,qA]at hr);cbv)
    ·cbv
     repeat' first|(refine Stp.mk ?_;cbv)|(refine Gen.mk fun r hr=> ?_;(try simp only[Dat.ok,Dat.dec,Leaf.ok,Leaf.val,Z0,Z1,Z2,Z3,Z4,Z5,Z6,Z7,Z8,Z9,Z10,Z11,Z12,Z13,Z14,qA,qB]at hr);cbv)|exact trivial|rfl|refine Both.mk ?_ ?_|(refine Imp.mk fun h=> ?_;(try dsimp only at h);(try simp only[nc,Int.toNat_natCast,ne_eq,zz]at h);(try simp only[nc]at h))|refine Ob.mk ?_ ?_|refine Chk.mk (by kernel_rfl) ?_|refine Eq'.mk ?_|(refine AllN.mk fun i hi=> ?_;cbv)|(refine AllC.mk fun c hc hcm=> ?_;(try dsimp only at hc);cbv)|(refine AllS.mk fun r hr=> ?_;(try simp only[Dat.ok,Dat.dec,Leaf.ok,Leaf.val,Z0,Z1,Z2,Z3,Z4,Z5,Z6,Z7,Z8,Z9,Z10,Z11,Z12,Z13,Z14,qA]at hr);cbv))
  |(refine fin0 _ _ _ ?_ (by assumption)
    have hb:qC5 (inp.getD k Dat.d0)=false:=by assumption
    have e:(inp.any fun n=> !qC5 n)=true:=by rw[hr,qX Dat.d0 (by omega),List.any_cons,hb];rfl
    unfold qFe
    rw[if_pos (by assumption),if_pos (by assumption),if_neg (by omega),if_pos e])
  |(refine fin0 _ _ _ ?_ (by assumption)
    have e:(inp.any fun n=> !qC5 n)=false:=by rw[hr,drop_nil (by omega)];rfl
    unfold qFe
    rw[if_pos (by assumption),if_pos (by assumption),if_neg (by omega),e,if_neg (by decide)]
    first
     |(rw[if_pos (by assumption),if_pos (by omega)];done)
     |(rw[if_neg (by simp_all)];done))
  |skip
 subst_vars
 have hch:qAn p=0:=by assumption
 have hri:qA1 v=0:=by assumption
 have hfu:qIB fuel 0 5000=true:=by assumption
 have hil:(inp.length:Int)≤5000:=by assumption
 have hat:v.at_≤(p.length:Int):=by assumption
 obtain⟨r1,r2,r3,r4⟩:=qB4 hri
 have hf2:0≤fuel∧fuel≤5000:=by simpa[qIB]using hfu
 have ha2:0≤v.at_∧v.at_≤100:=by simpa[qIB]using r1
 have hpl:p.length≤100:=by
  unfold qAn at hch
  split at hch
  ·cases hch
  ·omega
 have herr:qFe p v inp fuel=0:=by
  have e:(inp.any fun n=> !qC5 n)=false:=by rw[hr,drop_nil (by omega)];rfl
  unfold qFe
  rw[if_pos hch,if_pos hri,if_neg (by omega),e,if_neg (by decide),if_pos hfu,if_neg (by omega)]
 clear hr
 refine LoopVC.frame [15,73] (RunX p v inp fuel) (fun x=>[(15,.i .i64 fun _=>x.u)]) (fun x=>[(2,.blk [.i .i64 fun _=>x.m.at_,.own 3 fun _=>x.m.regs.length,.b fun _=>x.m.halts,.b fun _=>x.m.fault,Leaf.av fun _=>p,Leaf.av fun _=>x.m.inp,.own 4 fun _=>x.m.out.length]),(3,qA2 3 fun _=>x.m.regs),(4,qA2 78 fun _=>x.m.out)]) [4] (fun x=>(fuel-x.u).toNat)
  ⟨0,hf2.1,qCe v inp,⟨ha2.1,hat,r2⟩,Nat.zero_le _,Nat.le_refl _,by simp⟩ rfl (fun _=>rfl) ?_ ?_ fun⟨u,hu,⟨at_,regs,halts,fault,inp',out⟩,ok,ho,hi,hrun⟩=> ?_
 iterate 2
  ·cbv
   repeat' first|(refine Stp.mk ?_;cbv)|(refine Gen.mk fun r hr=> ?_;(try simp only[Dat.ok,Dat.dec,Leaf.ok,Leaf.val,Z0,Z1,Z2,Z3,Z4,Z5,Z6,Z7,Z8,Z9,Z10,Z11,Z12,Z13,Z14,qA,qB]at hr);cbv)|exact trivial|rfl|refine Both.mk ?_ ?_|(refine Imp.mk fun h=> ?_;(try dsimp only at h);(try simp only[nc,Int.toNat_natCast,ne_eq,zz]at h);(try simp only[nc]at h))|refine Ob.mk ?_ ?_|refine Chk.mk (by kernel_rfl) ?_|refine Eq'.mk ?_|(refine AllN.mk fun i hi=> ?_;cbv)|(refine AllC.mk fun c hc hcm=> ?_;(try dsimp only at hc);cbv)|(refine AllS.mk fun r hr=> ?_;(try simp only[Dat.ok,Dat.dec,Leaf.ok,Leaf.val,Z0,Z1,Z2,Z3,Z4,Z5,Z6,Z7,Z8,Z9,Z10,Z11,Z12,Z13,Z14,qA]at hr);cbv)
 obtain⟨o1,o2,o3⟩:=ok
 dsimp only at o1 o2 o3 ho hi
 cbv
 repeat' first|(show Stp _;exfalso;first|omega|(exact h ‹_›)|(exact absurd ‹_› h)|(exact Bool.false_ne_true (h.symm.trans (show _=true by assumption))))|(refine Stp.mk ?_;cbv)|(refine Gen.mk fun r hr=> ?_;(try simp only[Dat.ok,Dat.dec,Leaf.ok,Leaf.val,Z0,Z1,Z2,Z3,Z4,Z5,Z6,Z7,Z8,Z9,Z10,Z11,Z12,Z13,Z14,qA,qB]at hr);cbv)|exact trivial|rfl|refine Both.mk ?_ ?_|(refine Imp.mk fun h=> ?_;(try dsimp only at h);(try simp only[nc,Int.toNat_natCast,ne_eq,zz]at h);(try simp only[nc]at h))|refine Ob.mk ?_ ?_|refine Chk.mk (by kernel_rfl) ?_|refine Eq'.mk ?_|(refine AllN.mk fun i hi=> ?_;cbv)|(refine AllC.mk fun c hc hcm=> ?_;(try dsimp only at hc);cbv)|(refine AllS.mk fun r hr=> ?_;(try simp only[Dat.ok,Dat.dec,Leaf.ok,Leaf.val,Z0,Z1,Z2,Z3,Z4,Z5,Z6,Z7,Z8,Z9,Z10,Z11,Z12,Z13,Z14,qA]at hr);cbv)
 all_goals ((try dsimp only at*);(try simp only[nc,Int.toNat_natCast,ne_eq,zz]at*);(try simp only[nc]at*))
 all_goals try simp only[Dat.ok,Dat.dec,Leaf.ok,Leaf.val,Z0,Z1,Z2,Z3,Z4,Z5,Z6,Z7,Z8,Z9,Z10,Z11,Z12,Z13,Z14,qA]at*
 all_goals try rw[nc]at hu
 all_goals try rw[nc]at o2
 all_goals try have hI:=qLW (qJJ hch (show at_.toNat<p.length by omega))
 all_goals first
  |omega
  |(unfold InR;omega)
  |(exfalso;omega)
  |exact⟨Nat.le_refl _,Nat.le_refl _,by omega,by omega⟩
  |(have es:qAF p ⟨at_,regs,halts,fault,inp',out⟩=some ⟨at_,regs,halts,true,inp',out⟩:=by
     unfold qAF qAd gR
     dsimp only
     repeat (first|rw[if_pos (by omega)]|rw[if_neg (by omega)])
    refine⟨⟨u+1,by omega,⟨at_,regs,halts,true,inp',out⟩,⟨by(try dsimp only);omega,by(try dsimp only);omega,by(try rw[List.length_set]);exact o3⟩,by first|exact Nat.le_succ_of_le ho|(rw[List.length_append];exact Nat.succ_le_succ ho),by first|exact hi|(rw[List.length_drop];omega),qCf (by omega) (by assumption) (by assumption) es hrun⟩, ?_, ?_,rfl,by(try dsimp only);omega⟩
    ·cbv
     repeat' first|(refine Stp.mk ?_;cbv)|(refine Gen.mk fun r hr=> ?_;(try simp only[Dat.ok,Dat.dec,Leaf.ok,Leaf.val,Z0,Z1,Z2,Z3,Z4,Z5,Z6,Z7,Z8,Z9,Z10,Z11,Z12,Z13,Z14,qA,qB]at hr);cbv)|exact trivial|rfl|refine Both.mk ?_ ?_|(refine Imp.mk fun h=> ?_;(try dsimp only at h);(try simp only[nc,Int.toNat_natCast,ne_eq,zz]at h);(try simp only[nc]at h))|refine Ob.mk ?_ ?_|refine Chk.mk (by kernel_rfl) ?_|refine Eq'.mk ?_|(refine AllN.mk fun i hi=> ?_;cbv)|(refine AllC.mk fun c hc hcm=> ?_;(try dsimp only at hc);cbv)|(refine AllS.mk fun r hr=> ?_;(try simp only[Dat.ok,Dat.dec,Leaf.ok,Leaf.val,Z0,Z1,Z2,Z3,Z4,Z5,Z6,Z7,Z8,Z9,Z10,Z11,Z12,Z13,Z14,qA]at hr);cbv)
     all_goals first|rfl|simp
    ·cbv
     repeat' first|(refine Stp.mk ?_;cbv)|(refine Gen.mk fun r hr=> ?_;(try simp only[Dat.ok,Dat.dec,Leaf.ok,Leaf.val,Z0,Z1,Z2,Z3,Z4,Z5,Z6,Z7,Z8,Z9,Z10,Z11,Z12,Z13,Z14,qA,qB]at hr);cbv)|exact trivial|rfl|refine Both.mk ?_ ?_|(refine Imp.mk fun h=> ?_;(try dsimp only at h);(try simp only[nc,Int.toNat_natCast,ne_eq,zz]at h);(try simp only[nc]at h))|refine Ob.mk ?_ ?_|refine Chk.mk (by kernel_rfl) ?_|refine Eq'.mk ?_|(refine AllN.mk fun i hi=> ?_;cbv)|(refine AllC.mk fun c hc hcm=> ?_;(try dsimp only at hc);cbv)|(refine AllS.mk fun r hr=> ?_;(try simp only[Dat.ok,Dat.dec,Leaf.ok,Leaf.val,Z0,Z1,Z2,Z3,Z4,Z5,Z6,Z7,Z8,Z9,Z10,Z11,Z12,Z13,Z14,qA]at hr);cbv)
     all_goals ((try dsimp only at*);(try simp only[nc,Int.toNat_natCast,ne_eq,zz]at*);(try simp only[nc]at*))
     all_goals first
      |rfl
      |(simp;done)
      |(rw[qBp _ _ _ _ _ (by assumption)];done)
      |(rw[qBp _ _ _ _ _ (by assumption)];rfl)
      |(rw[qAE _ _ _ _ (by assumption)];cases decide (_<out.length)<;>rfl)
      |(rw[qAE _ _ _ _ (by assumption)];done)
      |(simp[List.length_drop];done)
      |(simp[List.length_drop];omega)
      |(rw[qC1];congr 1;omega)
      |fail)
  |(have es:qAF p ⟨at_,regs,halts,fault,inp',out⟩=some ⟨at_+1,regs.set (p.getD at_.toNat Dat.d0).a.toNat (p.getD at_.toNat Dat.d0).b,halts,fault,inp',out⟩:=by
     unfold qAF qAd gR
     dsimp only
     repeat (first|rw[if_pos (by omega)]|rw[if_neg (by omega)])
    refine⟨⟨u+1,by omega,⟨at_+1,regs.set (p.getD at_.toNat Dat.d0).a.toNat (p.getD at_.toNat Dat.d0).b,halts,fault,inp',out⟩,⟨by(try dsimp only);omega,by(try dsimp only);omega,by(try rw[List.length_set]);exact o3⟩,by first|exact Nat.le_succ_of_le ho|(rw[List.length_append];exact Nat.succ_le_succ ho),by first|exact hi|(rw[List.length_drop];omega),qCf (by omega) (by assumption) (by assumption) es hrun⟩, ?_, ?_,rfl,by(try dsimp only);omega⟩
    ·cbv
     repeat' first|(refine Stp.mk ?_;cbv)|(refine Gen.mk fun r hr=> ?_;(try simp only[Dat.ok,Dat.dec,Leaf.ok,Leaf.val,Z0,Z1,Z2,Z3,Z4,Z5,Z6,Z7,Z8,Z9,Z10,Z11,Z12,Z13,Z14,qA,qB]at hr);cbv)|exact trivial|rfl|refine Both.mk ?_ ?_|(refine Imp.mk fun h=> ?_;(try dsimp only at h);(try simp only[nc,Int.toNat_natCast,ne_eq,zz]at h);(try simp only[nc]at h))|refine Ob.mk ?_ ?_|refine Chk.mk (by kernel_rfl) ?_|refine Eq'.mk ?_|(refine AllN.mk fun i hi=> ?_;cbv)|(refine AllC.mk fun c hc hcm=> ?_;(try dsimp only at hc);cbv)|(refine AllS.mk fun r hr=> ?_;(try simp only[Dat.ok,Dat.dec,Leaf.ok,Leaf.val,Z0,Z1,Z2,Z3,Z4,Z5,Z6,Z7,Z8,Z9,Z10,Z11,Z12,Z13,Z14,qA]at hr);cbv)
     all_goals first|rfl|simp
    ·cbv
     repeat' first|(refine Stp.mk ?_;cbv)|(refine Gen.mk fun r hr=> ?_;(try simp only[Dat.ok,Dat.dec,Leaf.ok,Leaf.val,Z0,Z1,Z2,Z3,Z4,Z5,Z6,Z7,Z8,Z9,Z10,Z11,Z12,Z13,Z14,qA,qB]at hr);cbv)|exact trivial|rfl|refine Both.mk ?_ ?_|(refine Imp.mk fun h=> ?_;(try dsimp only at h);(try simp only[nc,Int.toNat_natCast,ne_eq,zz]at h);(try simp only[nc]at h))|refine Ob.mk ?_ ?_|refine Chk.mk (by kernel_rfl) ?_|refine Eq'.mk ?_|(refine AllN.mk fun i hi=> ?_;cbv)|(refine AllC.mk fun c hc hcm=> ?_;(try dsimp only at hc);cbv)|(refine AllS.mk fun r hr=> ?_;(try simp only[Dat.ok,Dat.dec,Leaf.ok,Leaf.val,Z0,Z1,Z2,Z3,Z4,Z5,Z6,Z7,Z8,Z9,Z10,Z11,Z12,Z13,Z14,qA]at hr);cbv)
     all_goals ((try dsimp only at*);(try simp only[nc,Int.toNat_natCast,ne_eq,zz]at*);(try simp only[nc]at*))
     all_goals first
      |rfl
      |(simp;done)
      |(rw[qBp _ _ _ _ _ (by assumption)];done)
      |(rw[qBp _ _ _ _ _ (by assumption)];rfl)
      |(rw[qAE _ _ _ _ (by assumption)];cases decide (_<out.length)<;>rfl)
      |(rw[qAE _ _ _ _ (by assumption)];done)
      |(simp[List.length_drop];done)
      |(simp[List.length_drop];omega)
      |(rw[qC1];congr 1;omega)
      |fail)
  |(have es:qAF p ⟨at_,regs,halts,fault,inp',out⟩=some ⟨at_+1,regs.set (p.getD at_.toNat Dat.d0).a.toNat (opV (p.getD at_.toNat Dat.d0).code (regs.getD (p.getD at_.toNat Dat.d0).a.toNat Dat.d0) (regs.getD (p.getD at_.toNat Dat.d0).b.toNat Dat.d0)),halts,fault,inp',out⟩:=by
     unfold qAF qAd gR
     dsimp only
     repeat (first|rw[if_pos (by omega)]|rw[if_neg (by omega)])
    refine⟨⟨u+1,by omega,⟨at_+1,regs.set (p.getD at_.toNat Dat.d0).a.toNat (opV (p.getD at_.toNat Dat.d0).code (regs.getD (p.getD at_.toNat Dat.d0).a.toNat Dat.d0) (regs.getD (p.getD at_.toNat Dat.d0).b.toNat Dat.d0)),halts,fault,inp',out⟩,⟨by(try dsimp only);omega,by(try dsimp only);omega,by(try rw[List.length_set]);exact o3⟩,by first|exact Nat.le_succ_of_le ho|(rw[List.length_append];exact Nat.succ_le_succ ho),by first|exact hi|(rw[List.length_drop];omega),qCf (by omega) (by assumption) (by assumption) es hrun⟩, ?_, ?_,rfl,by(try dsimp only);omega⟩
    ·cbv
     repeat' first|(refine Stp.mk ?_;cbv)|(refine Gen.mk fun r hr=> ?_;(try simp only[Dat.ok,Dat.dec,Leaf.ok,Leaf.val,Z0,Z1,Z2,Z3,Z4,Z5,Z6,Z7,Z8,Z9,Z10,Z11,Z12,Z13,Z14,qA,qB]at hr);cbv)|exact trivial|rfl|refine Both.mk ?_ ?_|(refine Imp.mk fun h=> ?_;(try dsimp only at h);(try simp only[nc,Int.toNat_natCast,ne_eq,zz]at h);(try simp only[nc]at h))|refine Ob.mk ?_ ?_|refine Chk.mk (by kernel_rfl) ?_|refine Eq'.mk ?_|(refine AllN.mk fun i hi=> ?_;cbv)|(refine AllC.mk fun c hc hcm=> ?_;(try dsimp only at hc);cbv)|(refine AllS.mk fun r hr=> ?_;(try simp only[Dat.ok,Dat.dec,Leaf.ok,Leaf.val,Z0,Z1,Z2,Z3,Z4,Z5,Z6,Z7,Z8,Z9,Z10,Z11,Z12,Z13,Z14,qA]at hr);cbv)
     all_goals first|rfl|simp
    ·cbv
     repeat' first|(refine Stp.mk ?_;cbv)|(refine Gen.mk fun r hr=> ?_;(try simp only[Dat.ok,Dat.dec,Leaf.ok,Leaf.val,Z0,Z1,Z2,Z3,Z4,Z5,Z6,Z7,Z8,Z9,Z10,Z11,Z12,Z13,Z14,qA,qB]at hr);cbv)|exact trivial|rfl|refine Both.mk ?_ ?_|(refine Imp.mk fun h=> ?_;(try dsimp only at h);(try simp only[nc,Int.toNat_natCast,ne_eq,zz]at h);(try simp only[nc]at h))|refine Ob.mk ?_ ?_|refine Chk.mk (by kernel_rfl) ?_|refine Eq'.mk ?_|(refine AllN.mk fun i hi=> ?_;cbv)|(refine AllC.mk fun c hc hcm=> ?_;(try dsimp only at hc);cbv)|(refine AllS.mk fun r hr=> ?_;(try simp only[Dat.ok,Dat.dec,Leaf.ok,Leaf.val,Z0,Z1,Z2,Z3,Z4,Z5,Z6,Z7,Z8,Z9,Z10,Z11,Z12,Z13,Z14,qA]at hr);cbv)
     all_goals ((try dsimp only at*);(try simp only[nc,Int.toNat_natCast,ne_eq,zz]at*);(try simp only[nc]at*))
     all_goals first
      |rfl
      |(simp;done)
      |(rw[qBp _ _ _ _ _ (by assumption)];done)
      |(rw[qBp _ _ _ _ _ (by assumption)];rfl)
      |(rw[qAE _ _ _ _ (by assumption)];cases decide (_<out.length)<;>rfl)
      |(rw[qAE _ _ _ _ (by assumption)];done)
      |(simp[List.length_drop];done)
      |(simp[List.length_drop];omega)
      |(rw[qC1];congr 1;omega)
      |fail)
  |(have es:qAF p ⟨at_,regs,halts,fault,inp',out⟩=some ⟨(p.getD at_.toNat Dat.d0).b,regs,halts,fault,inp',out⟩:=by
     unfold qAF qAd gR
     dsimp only
     repeat (first|rw[if_pos (by omega)]|rw[if_neg (by omega)])
    refine⟨⟨u+1,by omega,⟨(p.getD at_.toNat Dat.d0).b,regs,halts,fault,inp',out⟩,⟨by(try dsimp only);omega,by(try dsimp only);omega,by(try rw[List.length_set]);exact o3⟩,by first|exact Nat.le_succ_of_le ho|(rw[List.length_append];exact Nat.succ_le_succ ho),by first|exact hi|(rw[List.length_drop];omega),qCf (by omega) (by assumption) (by assumption) es hrun⟩, ?_, ?_,rfl,by(try dsimp only);omega⟩
    ·cbv
     repeat' first|(refine Stp.mk ?_;cbv)|(refine Gen.mk fun r hr=> ?_;(try simp only[Dat.ok,Dat.dec,Leaf.ok,Leaf.val,Z0,Z1,Z2,Z3,Z4,Z5,Z6,Z7,Z8,Z9,Z10,Z11,Z12,Z13,Z14,qA,qB]at hr);cbv)|exact trivial|rfl|refine Both.mk ?_ ?_|(refine Imp.mk fun h=> ?_;(try dsimp only at h);(try simp only[nc,Int.toNat_natCast,ne_eq,zz]at h);(try simp only[nc]at h))|refine Ob.mk ?_ ?_|refine Chk.mk (by kernel_rfl) ?_|refine Eq'.mk ?_|(refine AllN.mk fun i hi=> ?_;cbv)|(refine AllC.mk fun c hc hcm=> ?_;(try dsimp only at hc);cbv)|(refine AllS.mk fun r hr=> ?_;(try simp only[Dat.ok,Dat.dec,Leaf.ok,Leaf.val,Z0,Z1,Z2,Z3,Z4,Z5,Z6,Z7,Z8,Z9,Z10,Z11,Z12,Z13,Z14,qA]at hr);cbv)
     all_goals first|rfl|simp
    ·cbv
     repeat' first|(refine Stp.mk ?_;cbv)|(refine Gen.mk fun r hr=> ?_;(try simp only[Dat.ok,Dat.dec,Leaf.ok,Leaf.val,Z0,Z1,Z2,Z3,Z4,Z5,Z6,Z7,Z8,Z9,Z10,Z11,Z12,Z13,Z14,qA,qB]at hr);cbv)|exact trivial|rfl|refine Both.mk ?_ ?_|(refine Imp.mk fun h=> ?_;(try dsimp only at h);(try simp only[nc,Int.toNat_natCast,ne_eq,zz]at h);(try simp only[nc]at h))|refine Ob.mk ?_ ?_|refine Chk.mk (by kernel_rfl) ?_|refine Eq'.mk ?_|(refine AllN.mk fun i hi=> ?_;cbv)|(refine AllC.mk fun c hc hcm=> ?_;(try dsimp only at hc);cbv)|(refine AllS.mk fun r hr=> ?_;(try simp only[Dat.ok,Dat.dec,Leaf.ok,Leaf.val,Z0,Z1,Z2,Z3,Z4,Z5,Z6,Z7,Z8,Z9,Z10,Z11,Z12,Z13,Z14,qA]at hr);cbv)
     all_goals ((try dsimp only at*);(try simp only[nc,Int.toNat_natCast,ne_eq,zz]at*);(try simp only[nc]at*))
     all_goals first
      |rfl
      |(simp;done)
      |(rw[qBp _ _ _ _ _ (by assumption)];done)
      |(rw[qBp _ _ _ _ _ (by assumption)];rfl)
      |(rw[qAE _ _ _ _ (by assumption)];cases decide (_<out.length)<;>rfl)
      |(rw[qAE _ _ _ _ (by assumption)];done)
      |(simp[List.length_drop];done)
      |(simp[List.length_drop];omega)
      |(rw[qC1];congr 1;omega)
      |fail)
  |(have es:qAF p ⟨at_,regs,halts,fault,inp',out⟩=some ⟨at_+1,regs,halts,fault,inp',out⟩:=by
     unfold qAF qAd gR
     dsimp only
     repeat (first|rw[if_pos (by omega)]|rw[if_neg (by omega)])
    refine⟨⟨u+1,by omega,⟨at_+1,regs,halts,fault,inp',out⟩,⟨by(try dsimp only);omega,by(try dsimp only);omega,by(try rw[List.length_set]);exact o3⟩,by first|exact Nat.le_succ_of_le ho|(rw[List.length_append];exact Nat.succ_le_succ ho),by first|exact hi|(rw[List.length_drop];omega),qCf (by omega) (by assumption) (by assumption) es hrun⟩, ?_, ?_,rfl,by(try dsimp only);omega⟩
    ·cbv
     repeat' first|(refine Stp.mk ?_;cbv)|(refine Gen.mk fun r hr=> ?_;(try simp only[Dat.ok,Dat.dec,Leaf.ok,Leaf.val,Z0,Z1,Z2,Z3,Z4,Z5,Z6,Z7,Z8,Z9,Z10,Z11,Z12,Z13,Z14,qA,qB]at hr);cbv)|exact trivial|rfl|refine Both.mk ?_ ?_|(refine Imp.mk fun h=> ?_;(try dsimp only at h);(try simp only[nc,Int.toNat_natCast,ne_eq,zz]at h);(try simp only[nc]at h))|refine Ob.mk ?_ ?_|refine Chk.mk (by kernel_rfl) ?_|refine Eq'.mk ?_|(refine AllN.mk fun i hi=> ?_;cbv)|(refine AllC.mk fun c hc hcm=> ?_;(try dsimp only at hc);cbv)|(refine AllS.mk fun r hr=> ?_;(try simp only[Dat.ok,Dat.dec,Leaf.ok,Leaf.val,Z0,Z1,Z2,Z3,Z4,Z5,Z6,Z7,Z8,Z9,Z10,Z11,Z12,Z13,Z14,qA]at hr);cbv)
     all_goals first|rfl|simp
    ·cbv
     repeat' first|(refine Stp.mk ?_;cbv)|(refine Gen.mk fun r hr=> ?_;(try simp only[Dat.ok,Dat.dec,Leaf.ok,Leaf.val,Z0,Z1,Z2,Z3,Z4,Z5,Z6,Z7,Z8,Z9,Z10,Z11,Z12,Z13,Z14,qA,qB]at hr);cbv)|exact trivial|rfl|refine Both.mk ?_ ?_|(refine Imp.mk fun h=> ?_;(try dsimp only at h);(try simp only[nc,Int.toNat_natCast,ne_eq,zz]at h);(try simp only[nc]at h))|refine Ob.mk ?_ ?_|refine Chk.mk (by kernel_rfl) ?_|refine Eq'.mk ?_|(refine AllN.mk fun i hi=> ?_;cbv)|(refine AllC.mk fun c hc hcm=> ?_;(try dsimp only at hc);cbv)|(refine AllS.mk fun r hr=> ?_;(try simp only[Dat.ok,Dat.dec,Leaf.ok,Leaf.val,Z0,Z1,Z2,Z3,Z4,Z5,Z6,Z7,Z8,Z9,Z10,Z11,Z12,Z13,Z14,qA]at hr);cbv)
     all_goals ((try dsimp only at*);(try simp only[nc,Int.toNat_natCast,ne_eq,zz]at*);(try simp only[nc]at*))
     all_goals first
      |rfl
      |(simp;done)
      |(rw[qBp _ _ _ _ _ (by assumption)];done)
      |(rw[qBp _ _ _ _ _ (by assumption)];rfl)
      |(rw[qAE _ _ _ _ (by assumption)];cases decide (_<out.length)<;>rfl)
      |(rw[qAE _ _ _ _ (by assumption)];done)
      |(simp[List.length_drop];done)
      |(simp[List.length_drop];omega)
      |(rw[qC1];congr 1;omega)
      |fail)
  |(have es:qAF p ⟨at_,regs,halts,fault,inp',out⟩=some ⟨at_+1,regs.set (p.getD at_.toNat Dat.d0).a.toNat (inp'.getD 0 Dat.d0),halts,fault,inp'.drop 1,out⟩:=by
     unfold qAF qAd gR
     dsimp only
     repeat (first|rw[if_pos (by omega)]|rw[if_neg (by omega)])
    refine⟨⟨u+1,by omega,⟨at_+1,regs.set (p.getD at_.toNat Dat.d0).a.toNat (inp'.getD 0 Dat.d0),halts,fault,inp'.drop 1,out⟩,⟨by(try dsimp only);omega,by(try dsimp only);omega,by(try rw[List.length_set]);exact o3⟩,by first|exact Nat.le_succ_of_le ho|(rw[List.length_append];exact Nat.succ_le_succ ho),by first|exact hi|(rw[List.length_drop];omega),qCf (by omega) (by assumption) (by assumption) es hrun⟩, ?_, ?_,rfl,by(try dsimp only);omega⟩
    ·cbv
     repeat' first|(refine Stp.mk ?_;cbv)|(refine Gen.mk fun r hr=> ?_;(try simp only[Dat.ok,Dat.dec,Leaf.ok,Leaf.val,Z0,Z1,Z2,Z3,Z4,Z5,Z6,Z7,Z8,Z9,Z10,Z11,Z12,Z13,Z14,qA,qB]at hr);cbv)|exact trivial|rfl|refine Both.mk ?_ ?_|(refine Imp.mk fun h=> ?_;(try dsimp only at h);(try simp only[nc,Int.toNat_natCast,ne_eq,zz]at h);(try simp only[nc]at h))|refine Ob.mk ?_ ?_|refine Chk.mk (by kernel_rfl) ?_|refine Eq'.mk ?_|(refine AllN.mk fun i hi=> ?_;cbv)|(refine AllC.mk fun c hc hcm=> ?_;(try dsimp only at hc);cbv)|(refine AllS.mk fun r hr=> ?_;(try simp only[Dat.ok,Dat.dec,Leaf.ok,Leaf.val,Z0,Z1,Z2,Z3,Z4,Z5,Z6,Z7,Z8,Z9,Z10,Z11,Z12,Z13,Z14,qA]at hr);cbv)
     all_goals first|rfl|simp
    ·cbv
     repeat' first|(refine Stp.mk ?_;cbv)|(refine Gen.mk fun r hr=> ?_;(try simp only[Dat.ok,Dat.dec,Leaf.ok,Leaf.val,Z0,Z1,Z2,Z3,Z4,Z5,Z6,Z7,Z8,Z9,Z10,Z11,Z12,Z13,Z14,qA,qB]at hr);cbv)|exact trivial|rfl|refine Both.mk ?_ ?_|(refine Imp.mk fun h=> ?_;(try dsimp only at h);(try simp only[nc,Int.toNat_natCast,ne_eq,zz]at h);(try simp only[nc]at h))|refine Ob.mk ?_ ?_|refine Chk.mk (by kernel_rfl) ?_|refine Eq'.mk ?_|(refine AllN.mk fun i hi=> ?_;cbv)|(refine AllC.mk fun c hc hcm=> ?_;(try dsimp only at hc);cbv)|(refine AllS.mk fun r hr=> ?_;(try simp only[Dat.ok,Dat.dec,Leaf.ok,Leaf.val,Z0,Z1,Z2,Z3,Z4,Z5,Z6,Z7,Z8,Z9,Z10,Z11,Z12,Z13,Z14,qA]at hr);cbv)
     all_goals ((try dsimp only at*);(try simp only[nc,Int.toNat_natCast,ne_eq,zz]at*);(try simp only[nc]at*))
     all_goals first
      |rfl
      |(simp;done)
      |(rw[qBp _ _ _ _ _ (by assumption)];done)
      |(rw[qBp _ _ _ _ _ (by assumption)];rfl)
      |(rw[qAE _ _ _ _ (by assumption)];cases decide (_<out.length)<;>rfl)
      |(rw[qAE _ _ _ _ (by assumption)];done)
      |(simp[List.length_drop];done)
      |(simp[List.length_drop];omega)
      |(rw[qC1];congr 1;omega)
      |fail)
  |(have es:qAF p ⟨at_,regs,halts,fault,inp',out⟩=some ⟨at_+1,regs,halts,fault,inp',out++[⟨(p.getD at_.toNat Dat.d0).b,regs.getD (p.getD at_.toNat Dat.d0).a.toNat Dat.d0⟩]⟩:=by
     unfold qAF qAd gR
     dsimp only
     repeat (first|rw[if_pos (by omega)]|rw[if_neg (by omega)])
    refine⟨⟨u+1,by omega,⟨at_+1,regs,halts,fault,inp',out++[⟨(p.getD at_.toNat Dat.d0).b,regs.getD (p.getD at_.toNat Dat.d0).a.toNat Dat.d0⟩]⟩,⟨by(try dsimp only);omega,by(try dsimp only);omega,by(try rw[List.length_set]);exact o3⟩,by first|exact Nat.le_succ_of_le ho|(rw[List.length_append];exact Nat.succ_le_succ ho),by first|exact hi|(rw[List.length_drop];omega),qCf (by omega) (by assumption) (by assumption) es hrun⟩, ?_, ?_,rfl,by(try dsimp only);omega⟩
    ·cbv
     repeat' first|(refine Stp.mk ?_;cbv)|(refine Gen.mk fun r hr=> ?_;(try simp only[Dat.ok,Dat.dec,Leaf.ok,Leaf.val,Z0,Z1,Z2,Z3,Z4,Z5,Z6,Z7,Z8,Z9,Z10,Z11,Z12,Z13,Z14,qA,qB]at hr);cbv)|exact trivial|rfl|refine Both.mk ?_ ?_|(refine Imp.mk fun h=> ?_;(try dsimp only at h);(try simp only[nc,Int.toNat_natCast,ne_eq,zz]at h);(try simp only[nc]at h))|refine Ob.mk ?_ ?_|refine Chk.mk (by kernel_rfl) ?_|refine Eq'.mk ?_|(refine AllN.mk fun i hi=> ?_;cbv)|(refine AllC.mk fun c hc hcm=> ?_;(try dsimp only at hc);cbv)|(refine AllS.mk fun r hr=> ?_;(try simp only[Dat.ok,Dat.dec,Leaf.ok,Leaf.val,Z0,Z1,Z2,Z3,Z4,Z5,Z6,Z7,Z8,Z9,Z10,Z11,Z12,Z13,Z14,qA]at hr);cbv)
     all_goals first|rfl|simp
    ·cbv
     repeat' first|(refine Stp.mk ?_;cbv)|(refine Gen.mk fun r hr=> ?_;(try simp only[Dat.ok,Dat.dec,Leaf.ok,Leaf.val,Z0,Z1,Z2,Z3,Z4,Z5,Z6,Z7,Z8,Z9,Z10,Z11,Z12,Z13,Z14,qA,qB]at hr);cbv)|exact trivial|rfl|refine Both.mk ?_ ?_|(refine Imp.mk fun h=> ?_;(try dsimp only at h);(try simp only[nc,Int.toNat_natCast,ne_eq,zz]at h);(try simp only[nc]at h))|refine Ob.mk ?_ ?_|refine Chk.mk (by kernel_rfl) ?_|refine Eq'.mk ?_|(refine AllN.mk fun i hi=> ?_;cbv)|(refine AllC.mk fun c hc hcm=> ?_;(try dsimp only at hc);cbv)|(refine AllS.mk fun r hr=> ?_;(try simp only[Dat.ok,Dat.dec,Leaf.ok,Leaf.val,Z0,Z1,Z2,Z3,Z4,Z5,Z6,Z7,Z8,Z9,Z10,Z11,Z12,Z13,Z14,qA]at hr);cbv)
     all_goals ((try dsimp only at*);(try simp only[nc,Int.toNat_natCast,ne_eq,zz]at*);(try simp only[nc]at*))
     all_goals first
      |rfl
      |(simp;done)
      |(rw[qBp _ _ _ _ _ (by assumption)];done)
      |(rw[qBp _ _ _ _ _ (by assumption)];rfl)
      |(rw[qAE _ _ _ _ (by assumption)];cases decide (_<out.length)<;>rfl)
      |(rw[qAE _ _ _ _ (by assumption)];done)
      |(simp[List.length_drop];done)
      |(simp[List.length_drop];omega)
      |(rw[qC1];congr 1;omega)
      |fail)
  |(have es:qAF p ⟨at_,regs,halts,fault,inp',out⟩=some ⟨at_,regs,true,fault,inp',out⟩:=by
     unfold qAF qAd gR
     dsimp only
     repeat (first|rw[if_pos (by omega)]|rw[if_neg (by omega)])
    refine⟨⟨u+1,by omega,⟨at_,regs,true,fault,inp',out⟩,⟨by(try dsimp only);omega,by(try dsimp only);omega,by(try rw[List.length_set]);exact o3⟩,by first|exact Nat.le_succ_of_le ho|(rw[List.length_append];exact Nat.succ_le_succ ho),by first|exact hi|(rw[List.length_drop];omega),qCf (by omega) (by assumption) (by assumption) es hrun⟩, ?_, ?_,rfl,by(try dsimp only);omega⟩
    ·cbv
     repeat' first|(refine Stp.mk ?_;cbv)|(refine Gen.mk fun r hr=> ?_;(try simp only[Dat.ok,Dat.dec,Leaf.ok,Leaf.val,Z0,Z1,Z2,Z3,Z4,Z5,Z6,Z7,Z8,Z9,Z10,Z11,Z12,Z13,Z14,qA,qB]at hr);cbv)|exact trivial|rfl|refine Both.mk ?_ ?_|(refine Imp.mk fun h=> ?_;(try dsimp only at h);(try simp only[nc,Int.toNat_natCast,ne_eq,zz]at h);(try simp only[nc]at h))|refine Ob.mk ?_ ?_|refine Chk.mk (by kernel_rfl) ?_|refine Eq'.mk ?_|(refine AllN.mk fun i hi=> ?_;cbv)|(refine AllC.mk fun c hc hcm=> ?_;(try dsimp only at hc);cbv)|(refine AllS.mk fun r hr=> ?_;(try simp only[Dat.ok,Dat.dec,Leaf.ok,Leaf.val,Z0,Z1,Z2,Z3,Z4,Z5,Z6,Z7,Z8,Z9,Z10,Z11,Z12,Z13,Z14,qA]at hr);cbv)
     all_goals first|rfl|simp
    ·cbv
     repeat' first|(refine Stp.mk ?_;cbv)|(refine Gen.mk fun r hr=> ?_;(try simp only[Dat.ok,Dat.dec,Leaf.ok,Leaf.val,Z0,Z1,Z2,Z3,Z4,Z5,Z6,Z7,Z8,Z9,Z10,Z11,Z12,Z13,Z14,qA,qB]at hr);cbv)|exact trivial|rfl|refine Both.mk ?_ ?_|(refine Imp.mk fun h=> ?_;(try dsimp only at h);(try simp only[nc,Int.toNat_natCast,ne_eq,zz]at h);(try simp only[nc]at h))|refine Ob.mk ?_ ?_|refine Chk.mk (by kernel_rfl) ?_|refine Eq'.mk ?_|(refine AllN.mk fun i hi=> ?_;cbv)|(refine AllC.mk fun c hc hcm=> ?_;(try dsimp only at hc);cbv)|(refine AllS.mk fun r hr=> ?_;(try simp only[Dat.ok,Dat.dec,Leaf.ok,Leaf.val,Z0,Z1,Z2,Z3,Z4,Z5,Z6,Z7,Z8,Z9,Z10,Z11,Z12,Z13,Z14,qA]at hr);cbv)
     all_goals ((try dsimp only at*);(try simp only[nc,Int.toNat_natCast,ne_eq,zz]at*);(try simp only[nc]at*))
     all_goals first
      |rfl
      |(simp;done)
      |(rw[qBp _ _ _ _ _ (by assumption)];done)
      |(rw[qBp _ _ _ _ _ (by assumption)];rfl)
      |(rw[qAE _ _ _ _ (by assumption)];cases decide (_<out.length)<;>rfl)
      |(rw[qAE _ _ _ _ (by assumption)];done)
      |(simp[List.length_drop];done)
      |(simp[List.length_drop];omega)
      |(rw[qC1];congr 1;omega)
      |fail)
  |(refine fin1 _ _ _ ⟨at_,regs,halts,fault,inp',out⟩ u _ _ herr ?_
    rw[hrun]
    obtain hz|⟨f,hz⟩:(fuel-u).toNat=0∨∃f,(fuel-u).toNat=f+1:=by
     cases h:(fuel-u).toNat with
     |zero=>exact .inl rfl
     |succ f=>exact .inr ⟨f,rfl⟩
    ·rw[hz,qAy];simp
    ·rw[hz,qAy]
     have es:halts=false→fault=false→qAF p ⟨at_,regs,halts,fault,inp',out⟩=none:=fun q1 q2=>by
      unfold qAF qAd gR
      dsimp only
      first
       |(exfalso;simp_all;done)
       |(exfalso;omega)
       |(repeat (first|rw[if_pos (by omega)]|rw[if_neg (by omega)]))
     cases hh:halts<;>cases hf:fault<;>simp_all)
  |fail
end Go.Proofs.YtiaiifcgbjlfoaaGreatDoor
