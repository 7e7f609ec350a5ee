/- What lives at the top: a plan, a program, a number. -/
import Derived.Test.YtiaiifcgbjlfoaaGreatDoorJudN
import Derived.Test.YtiaiifcgbjlfoaaGreatDoorPgr6
import Derived.Test.YtiaiifcgbjlfoaaGreatDoorPartT
set_option linter.all false
namespace Go.Proofs.YtiaiifcgbjlfoaaGreatDoor
open Go Go.Abs
def qW4 (r:Th (Vm)):AV:= .agg [.i .i64 fun _=>(r ()).at_,.own 0 fun _=>(r ()).regs.length,.b fun _=>(r ()).halts,.b fun _=>(r ()).fault]
def qW5 (r:Th (Vm)):Hp:=[qA2 3 fun _=>(r ()).regs]
def qPq:Vm:=(⟨0,List.replicate 8 0,false,false⟩:Vm)
set_option maxRecDepth 100000 in
set_option maxHeartbeats 4000000 in
theorem qT5:qO Tryz.prog 15 [] [] (qAf (qW4 fun _=>qPq) (qW5 fun _=>qPq)):=by
 refine qAe qI zl qP qD (keep:=[0]) Tryz.func15 rfl ?_
 cbv
 repeat' first|(refine Stp.mk ?_;cbv)|(refine Gen.mk fun r hr=> ?_;(try simp only[Dat.ok,Dat.dec,Leaf.ok,Leaf.val,Z0,Z1,Z2,Z3,Z4,Z5,Z6,Z7,Z8,Z9,Z10,Z11,Z12,Z13,Z14,qA,qB]at hr);cbv)|exact trivial|rfl|refine Both.mk ?_ ?_|(refine Imp.mk fun h=> ?_;(try dsimp only at h);(try simp only[nc,Int.toNat_natCast,ne_eq,zz]at h);(try simp only[nc]at h))|refine Ob.mk ?_ ?_|refine Chk.mk (by kernel_rfl) ?_|refine Eq'.mk ?_|(refine AllN.mk fun i hi=> ?_;cbv)|(refine AllC.mk fun c hc hcm=> ?_;(try dsimp only at hc);cbv)|(refine AllS.mk fun r hr=> ?_;(try simp only[Dat.ok,Dat.dec,Leaf.ok,Leaf.val,Z0,Z1,Z2,Z3,Z4,Z5,Z6,Z7,Z8,Z9,Z10,Z11,Z12,Z13,Z14,qA]at hr);cbv)
 all_goals ((try dsimp only at*);(try simp only[nc,Int.toNat_natCast,ne_eq,zz]at*);(try simp only[nc]at*))
 all_goals first
  |omega
  |(have:i<8:=hi
    show(0:Int)=(List.replicate 8 (0:Int)).getD i 0
    rw[List.getD_eq_getElem?_getD,List.getElem?_replicate]
    split<;>rfl)
  |fail
def qW6 (r:Th (Vm)):AV:= .agg [.i .i64 fun _=>(r ()).at_,Leaf.av fun _=>(r ()).regs,.b fun _=>(r ()).halts,.b fun _=>(r ()).fault]
def qPr:Det:=fun A=>match A with
 |[]=>some (fun _=>True,qW6 fun _=>qPq)
 |_=>none
theorem qRh:∀A p r,qPr A=some (p,r)→p ()→qJV Tryz.prog 15 A r:=fun A p r h hp0=>by
 unfold qPr at h
 split at h
 ·cases h
  exact qO.fresh (A:=[]) (qO.pre (A':=[]) (qT5) (trivial)) rfl (q:=_) (d:=_) rfl (by intro p hp;repeat (first|(cases hp;done)|(rcases List.mem_cons.1 hp with rfl|hp;· exact Nat.le_refl _))) rfl rfl ⟨.mk fun _ _=>rfl,trivial⟩
 ·cases h
def qYi (r:Th (Table×(List Bool)×Int)):AV:= .tup [.agg [.i .i64 fun _=>(r ()).1.frame,Leaf.av fun _=>(r ()).1.windows],Leaf.av fun _=>(r ()).2.1,.i .i64 fun _=>(r ()).2.2]
def qT6:Det:=fun A=>match A with
 |[.agg p]=>some (fun _=>Dat.ok Plan p∧qV2 (Dat.dec p),qYi fun _=>qTd (Dat.dec p))
 |_=>none
theorem qT7:∀A p r,qT6 A=some (p,r)→p ()→qJV Tryz.prog 23 A r:=fun A p r h hp0=>by
 unfold qT6 at h
 split at h
 ·rename_i p
  cases h
  obtain⟨g0,hp⟩:=hp0
  exact qO.fresh (A:=[.agg p]) (qO.pre (A':=[.agg (Dat.enc fun _=>(Dat.dec p:Plan))]) (qV3 (Dat.dec p) hp) (.mk (Dat.hle _ g0) (trivial))) rfl (q:=_) (d:=_) rfl (by intro p hp;repeat (first|(cases hp;done)|(rcases List.mem_cons.1 hp with rfl|hp;· exact Nat.le_refl _))) rfl rfl ⟨.mk fun _ _=>rfl,.mk fun _ _=>rfl,trivial⟩
 ·cases h
def qRi (r:Th ((List Ins)×Int×Int)):AV:= .tup [Leaf.av fun _=>(r ()).1,.i .i64 fun _=>(r ()).2.1,.i .i64 fun _=>(r ()).2.2]
def qIl:Det:=fun A=>match A with
 |[.s s]=>some (fun _=>True,qRi fun _=>qC7 (s ()))
 |_=>none
theorem qM6:∀A p r,qIl A=some (p,r)→p ()→qJV Tryz.prog 13 A r:=fun A p r h hp0=>by
 unfold qIl at h
 split at h
 ·rename_i s
  cases h
  exact qO.fresh (A:=[.s s]) (qO.pre (A':=[.s fun _=>s ()]) (qM0 (s ())) (.mk (.mk rfl) (trivial))) rfl (q:=_) (d:=_) rfl (by intro p hp;repeat (first|(cases hp;done)|(rcases List.mem_cons.1 hp with rfl|hp;· exact Nat.le_refl _))) rfl rfl ⟨.mk fun _ _=>rfl,trivial⟩
 ·cases h
structure eqE_X (l m:List Emit) where
 k:Nat
 hk:k≤l.length
 hv:∀j,j<k→l.getD j Dat.d0=m.getD j Dat.d0
def qRj (r:Th (Bool)):AV:= .b fun _=>(r ())
def qRk (l:(List Emit)) (m:(List Emit)):Bool:=decide (l=m)
def qW7 (l:(List Emit)) (m:(List Emit)):Prop:=l.length≤9223372036854775807
def qT8:Det:=fun A=>match A with
 |[l,m]=>some (fun _=>Leaf.ok (List Emit) l∧Leaf.ok (List Emit) m∧qW7 (Leaf.val l) (Leaf.val m),qRj fun _=>qRk (Leaf.val l) (Leaf.val m))
 |_=>none
set_option maxRecDepth 100000 in
set_option maxHeartbeats 4000000 in
theorem qW8 (l:(List Emit)) (m:(List Emit)) (hp:qW7 l m):qO Tryz.prog 24 [Leaf.av fun _=>l,Leaf.av fun _=>m] [] (qAf (qRj fun _=>qRk l m) []):=by
 refine qAe qI zl qP (qAb qI zl qEd mixed) (keep:=[0,1,4,5,10,12,13,14,24]) Tryz.func24 rfl ?_
 have hp':l.length≤9223372036854775807:=hp
 have fin:∀(b:Bool) H kl,b=decide (l=m)→qAf (qRj fun _=>qRk l m) [] (.bc b) H kl:=by
  rintro b H kl rfl
  cbv
  repeat' first|(refine Stp.mk ?_;cbv)|(refine Gen.mk fun r hr=> ?_;(try simp only[Dat.ok,Dat.dec,Leaf.ok,Leaf.val,Z0,Z1,Z2,Z3,Z4,Z5,Z6,Z7,Z8,Z9,Z10,Z11,Z12,Z13,Z14,qA,qB]at hr);cbv)|exact trivial|rfl|refine Both.mk ?_ ?_|(refine Imp.mk fun h=> ?_;(try dsimp only at h);(try simp only[nc,Int.toNat_natCast,ne_eq,zz]at h);(try simp only[nc]at h))|refine Ob.mk ?_ ?_|refine Chk.mk (by kernel_rfl) ?_|refine Eq'.mk ?_|(refine AllN.mk fun i hi=> ?_;cbv)|(refine AllC.mk fun c hc hcm=> ?_;(try dsimp only at hc);cbv)|(refine AllS.mk fun r hr=> ?_;(try simp only[Dat.ok,Dat.dec,Leaf.ok,Leaf.val,Z0,Z1,Z2,Z3,Z4,Z5,Z6,Z7,Z8,Z9,Z10,Z11,Z12,Z13,Z14,qA]at hr);cbv)
 generalize qAf (qRj fun _=>qRk l m) []=K at fin
 cbv
 refine Both.mk (Imp.mk fun h1=> ?_) (Imp.mk fun h1=> ?_)
 all_goals (refine Stp.mk ?_;cbv;(try dsimp only at h1);(try simp only[nc,Int.toNat_natCast,ne_eq,zz]at h1);(try simp only[nc]at h1))
 ·refine fin _ _ _ ?_
  exact(decide_eq_false (fun h=>by subst h;omega)).symm
 ·have hlen:l.length=m.length:=by omega
  refine LoopVC.frame [4,5,13,14,24] (eqE_X l m) (fun x=>[(13,.i .i64 fun _=>x.k)]) (fun _=>[]) [] (fun x=>l.length-x.k)
   ⟨0,Nat.zero_le _,fun j hj=>absurd hj (Nat.not_lt_zero _)⟩ rfl (fun _=>rfl) ?_ ?_ fun⟨k,hk,hv⟩=> ?_
  ·cbv
   repeat' first|(refine Stp.mk ?_;cbv)|(refine Gen.mk fun r hr=> ?_;(try simp only[Dat.ok,Dat.dec,Leaf.ok,Leaf.val,Z0,Z1,Z2,Z3,Z4,Z5,Z6,Z7,Z8,Z9,Z10,Z11,Z12,Z13,Z14,qA,qB]at hr);cbv)|exact trivial|rfl|refine Both.mk ?_ ?_|(refine Imp.mk fun h=> ?_;(try dsimp only at h);(try simp only[nc,Int.toNat_natCast,ne_eq,zz]at h);(try simp only[nc]at h))|refine Ob.mk ?_ ?_|refine Chk.mk (by kernel_rfl) ?_|refine Eq'.mk ?_|(refine AllN.mk fun i hi=> ?_;cbv)|(refine AllC.mk fun c hc hcm=> ?_;(try dsimp only at hc);cbv)|(refine AllS.mk fun r hr=> ?_;(try simp only[Dat.ok,Dat.dec,Leaf.ok,Leaf.val,Z0,Z1,Z2,Z3,Z4,Z5,Z6,Z7,Z8,Z9,Z10,Z11,Z12,Z13,Z14,qA]at hr);cbv)
  ·cbv
  ·cbv
   repeat' first|(refine Stp.mk ?_;cbv)|(refine Gen.mk fun r hr=> ?_;(try simp only[Dat.ok,Dat.dec,Leaf.ok,Leaf.val,Z0,Z1,Z2,Z3,Z4,Z5,Z6,Z7,Z8,Z9,Z10,Z11,Z12,Z13,Z14,qA,qB]at hr);cbv)|exact trivial|rfl|refine Both.mk ?_ ?_|(refine Imp.mk fun h=> ?_;(try dsimp only at h);(try simp only[nc,Int.toNat_natCast,ne_eq,zz]at h);(try simp only[nc]at h))|refine Ob.mk ?_ ?_|refine Chk.mk (by kernel_rfl) ?_|refine Eq'.mk ?_|(refine AllN.mk fun i hi=> ?_;cbv)|(refine AllC.mk fun c hc hcm=> ?_;(try dsimp only at hc);cbv)|(refine AllS.mk fun r hr=> ?_;(try simp only[Dat.ok,Dat.dec,Leaf.ok,Leaf.val,Z0,Z1,Z2,Z3,Z4,Z5,Z6,Z7,Z8,Z9,Z10,Z11,Z12,Z13,Z14,qA]at hr);cbv)
   all_goals ((try dsimp only at*);(try simp only[nc,Int.toNat_natCast,ne_eq,zz]at*);(try simp only[nc]at*))
   all_goals first
    |omega
    |(unfold InR;omega)
    |(refine fin _ _ _ (decide_eq_true ?_).symm
      apply List.ext_getElem hlen
      intro i h1 h2
      have:=hv i (by omega)
      simpa[h1,h2]using this)
    |(refine fin _ _ _ (decide_eq_false fun h=> ?_).symm
      subst h
      simp_all;done)
    |skip
   all_goals (
    refine⟨⟨k+1,by omega,fun j hj=> ?_⟩, ?_,trivial,rfl,by(try dsimp only);omega⟩
    ·rcases Nat.lt_succ_iff_lt_or_eq.1 hj with hj|rfl
     ·exact hv j hj
     ·first|assumption|(generalize l.getD j Dat.d0=a at*;generalize m.getD j Dat.d0=b at*;cases a;cases b;simp_all;done)
    ·cbv
     repeat' first|(refine Stp.mk ?_;cbv)|(refine Gen.mk fun r hr=> ?_;(try simp only[Dat.ok,Dat.dec,Leaf.ok,Leaf.val,Z0,Z1,Z2,Z3,Z4,Z5,Z6,Z7,Z8,Z9,Z10,Z11,Z12,Z13,Z14,qA,qB]at hr);cbv)|exact trivial|rfl|refine Both.mk ?_ ?_|(refine Imp.mk fun h=> ?_;(try dsimp only at h);(try simp only[nc,Int.toNat_natCast,ne_eq,zz]at h);(try simp only[nc]at h))|refine Ob.mk ?_ ?_|refine Chk.mk (by kernel_rfl) ?_|refine Eq'.mk ?_|(refine AllN.mk fun i hi=> ?_;cbv)|(refine AllC.mk fun c hc hcm=> ?_;(try dsimp only at hc);cbv)|(refine AllS.mk fun r hr=> ?_;(try simp only[Dat.ok,Dat.dec,Leaf.ok,Leaf.val,Z0,Z1,Z2,Z3,Z4,Z5,Z6,Z7,Z8,Z9,Z10,Z11,Z12,Z13,Z14,qA]at hr);cbv))
theorem qW9:qBf Tryz.prog 24 (qM qT8):=qS fun A p r h hp0=>by
 unfold qT8 at h
 split at h
 ·rename_i l m
  cases h
  obtain⟨g0,g1,hp⟩:=hp0
  exact⟨rfl,qO.pre (A':=[Leaf.av fun _=>(Leaf.val l:(List Emit)),Leaf.av fun _=>(Leaf.val m:(List Emit))]) (qW8 (Leaf.val l) (Leaf.val m) hp) (.mk (Leaf.hle _ g0) (.mk (Leaf.hle _ g1) (trivial)))⟩
 ·cases h
set_option maxRecDepth 100000
noncomputable def cLv:FuncId→Con:=fun f=>match f with
 |23=>qDE qT6
 |13=>qDE qIl
 |15=>qDE qPr
 |10=>qDE qHg
 |24=>qH (qM qT8)
 |_=>fun _ _ _=>Bad 1001
theorem qXa:qY Tryz.prog cLv:=fun f A H K h=>by
 unfold cLv at h
 split at h
 ·exact⟨⟨Tryz.f23,Tryz.func23,by kernel_rfl,by kernel_rfl⟩,qAY qT7 h⟩
 ·exact⟨⟨Tryz.f13,Tryz.func13,by kernel_rfl,by kernel_rfl⟩,qAY qM6 h⟩
 ·exact⟨⟨Tryz.f15,Tryz.func15,by kernel_rfl,by kernel_rfl⟩,qAY qRh h⟩
 ·exact⟨⟨Tryz.f10,Tryz.func10,by kernel_rfl,by kernel_rfl⟩,qAY qFy h⟩
 ·exact⟨⟨Tryz.f24,Tryz.func24,by kernel_rfl,by kernel_rfl⟩,qE qW9 h⟩
 ·cases h
def dLv:FuncId→Option Dt:=fun f=>match f with
 |_=>none
theorem qXb:qBk Tryz.prog dLv:=fun f d h=>by
 unfold dLv at h
 split at h
 ·cases h
def qSs (r:Th (Bool)):AV:= .bc true
def qPs:Det:=fun A=>match A with
 |[]=>some (fun _=>True,qSs fun _=>true)
 |_=>none
set_option maxRecDepth 100000 in
set_option maxHeartbeats 4000000 in
theorem qT9:qO Tryz.prog 7 [] [] (qAf (qSs fun _=>true) []):=by
 refine qAe qI zl qXa (qAb qI zl qXb mixed) (keep:=[0,1,2,3,4,6,8,11]) Tryz.func7 rfl ?_
 cbv
 repeat' first|(refine LoopVC.un 6 ?_;cbv)|(refine Imp.mk fun h=> ?_;first|exact absurd h (by decide+kernel)|exact absurd (beq_iff_eq.1 h).symm hn|exact absurd (beq_iff_eq.1 h) hn|(exfalso;simp only[nc,decide_eq_true_eq,decide_eq_false_iff_not,Bool.not_eq_true',Bool.not_eq_false']at h;omega)|skip)|(refine Gen.mk fun r hr=> ?_;subst hr;cbv)|(refine AllS.mk fun r hr=> ?_;first|obtain rfl:=List.perm_singleton.1 hr.1|obtain rfl:=List.perm_nil.1 hr.1|skip;cbv)|(refine Stp.mk ?_;cbv)|(refine Gen.mk fun r hr=> ?_;(try simp only[Dat.ok,Dat.dec,Leaf.ok,Leaf.val,Z0,Z1,Z2,Z3,Z4,Z5,Z6,Z7,Z8,Z9,Z10,Z11,Z12,Z13,Z14,qA,qB]at hr);cbv)|exact trivial|rfl|refine Both.mk ?_ ?_|(refine Imp.mk fun h=> ?_;(try dsimp only at h);(try simp only[nc,Int.toNat_natCast,ne_eq,zz]at h);(try simp only[nc]at h))|refine Ob.mk ?_ ?_|refine Chk.mk (by kernel_rfl) ?_|refine Eq'.mk ?_|(refine AllN.mk fun i hi=> ?_;cbv)|(refine AllC.mk fun c hc hcm=> ?_;(try dsimp only at hc);cbv)|(refine AllS.mk fun r hr=> ?_;(try simp only[Dat.ok,Dat.dec,Leaf.ok,Leaf.val,Z0,Z1,Z2,Z3,Z4,Z5,Z6,Z7,Z8,Z9,Z10,Z11,Z12,Z13,Z14,qA]at hr);cbv)
 all_goals first
  |exact Nat.le_refl _
  |decide+kernel
  |exact⟨⟨trivial,⟨rfl,fun _ _=>⟨trivial,trivial,trivial,trivial⟩⟩,rfl,fun _ _=>⟨trivial,trivial,trivial,trivial⟩⟩,rfl⟩
  |exact⟨⟨rfl,fun i _=>Dat.hok _⟩,⟨trivial,⟨rfl,fun i _=>Dat.hok _⟩,trivial,trivial⟩,⟨rfl,fun _ _=>trivial⟩,show _≤_ by decide+kernel,show _≤_ by decide+kernel,show _≤_ by decide+kernel⟩
  |exact⟨⟨rfl,fun i _=>Dat.hok _⟩,⟨rfl,fun _ _=>⟨trivial,trivial⟩⟩,show _≤_ by decide+kernel⟩
  |fail
theorem qUa:qBf Tryz.prog 7 (qM qPs):=qS fun A p r h hp0=>by
 unfold qPs at h
 split at h
 ·cases h
  exact⟨rfl,qO.pre (A':=[]) (qT9) (trivial)⟩
 ·cases h
end Go.Proofs.YtiaiifcgbjlfoaaGreatDoor
