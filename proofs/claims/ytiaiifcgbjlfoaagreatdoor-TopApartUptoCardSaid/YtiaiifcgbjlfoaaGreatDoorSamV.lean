/- Two states of a machine, held against one another. -/
import Derived.Test.YtiaiifcgbjlfoaaGreatDoorTy
import Derived.Test.YtiaiifcgbjlfoaaGreatDoorAbsG4
set_option linter.all false
namespace Go.Proofs.YtiaiifcgbjlfoaaGreatDoor
open Go Go.Abs
structure eqInt_X (l m:List Int) where
 k:Nat
 hk:k≤l.length
 hv:∀j,j<k→l.getD j Dat.d0=m.getD j Dat.d0
def qIs (r:Th (Bool)):AV:= .b fun _=>(r ())
def qDO (l:(List Int)) (m:(List Int)):Bool:=decide (l=m)
def qPG (l:(List Int)) (m:(List Int)):Prop:=l.length≤9223372036854775807
def qGv:Det:=fun A=>match A with
 |[l,m]=>some (fun _=>Leaf.ok (List Int) l∧Leaf.ok (List Int) m∧qPG (Leaf.val l) (Leaf.val m),qIs fun _=>qDO (Leaf.val l) (Leaf.val m))
 |_=>none
set_option maxRecDepth 100000 in
set_option maxHeartbeats 4000000 in
theorem qRz (l:(List Int)) (m:(List Int)) (hp:qPG l m):qO Tryz.prog 12 [Leaf.av fun _=>l,Leaf.av fun _=>m] [] (qAf (qIs fun _=>qDO l m) []):=by
 refine qAe qI zl qP (qAb qI zl qEd mixed) (keep:=[0,1,4,5,10,12,13,14,24]) Tryz.func12 rfl ?_
 have hp':l.length≤9223372036854775807:=hp
 have fin:∀(b:Bool) H kl,b=decide (l=m)→qAf (qIs fun _=>qDO l m) [] (.bc b) H kl:=by
  rintro b H kl rfl
  cbv
  repeat' first|(refine Stp.mk ?_;cbv)|(refine Gen.mk fun r hr=> ?_;(try simp only[Dat.ok,Dat.dec,Leaf.ok,Leaf.val,Z0,Z1,Z2,Z3,Z4,Z5,Z6,Z7,Z8,Z9,Z10,Z11,Z12,Z13,Z14,qA,qB]at hr);cbv)|exact trivial|rfl|refine Both.mk ?_ ?_|(refine Imp.mk fun h=> ?_;(try dsimp only at h);(try simp only[nc,Int.toNat_natCast,ne_eq,zz]at h);(try simp only[nc]at h))|refine Ob.mk ?_ ?_|refine Chk.mk (by kernel_rfl) ?_|refine Eq'.mk ?_|(refine AllN.mk fun i hi=> ?_;cbv)|(refine AllC.mk fun c hc hcm=> ?_;(try dsimp only at hc);cbv)|(refine AllS.mk fun r hr=> ?_;(try simp only[Dat.ok,Dat.dec,Leaf.ok,Leaf.val,Z0,Z1,Z2,Z3,Z4,Z5,Z6,Z7,Z8,Z9,Z10,Z11,Z12,Z13,Z14,qA]at hr);cbv)
 generalize qAf (qIs fun _=>qDO l m) []=K at fin
 cbv
 refine Both.mk (Imp.mk fun h1=> ?_) (Imp.mk fun h1=> ?_)
 all_goals (refine Stp.mk ?_;cbv;(try dsimp only at h1);(try simp only[nc,Int.toNat_natCast,ne_eq,zz]at h1);(try simp only[nc]at h1))
 ·refine fin _ _ _ ?_
  exact(decide_eq_false (fun h=>by subst h;omega)).symm
 ·have hlen:l.length=m.length:=by omega
  refine LoopVC.frame [4,5,13,14,24] (eqInt_X l m) (fun x=>[(13,.i .i64 fun _=>x.k)]) (fun _=>[]) [] (fun x=>l.length-x.k)
   ⟨0,Nat.zero_le _,fun j hj=>absurd hj (Nat.not_lt_zero _)⟩ rfl (fun _=>rfl) ?_ ?_ fun⟨k,hk,hv⟩=> ?_
  ·cbv
   repeat' first|(refine Stp.mk ?_;cbv)|(refine Gen.mk fun r hr=> ?_;(try simp only[Dat.ok,Dat.dec,Leaf.ok,Leaf.val,Z0,Z1,Z2,Z3,Z4,Z5,Z6,Z7,Z8,Z9,Z10,Z11,Z12,Z13,Z14,qA,qB]at hr);cbv)|exact trivial|rfl|refine Both.mk ?_ ?_|(refine Imp.mk fun h=> ?_;(try dsimp only at h);(try simp only[nc,Int.toNat_natCast,ne_eq,zz]at h);(try simp only[nc]at h))|refine Ob.mk ?_ ?_|refine Chk.mk (by kernel_rfl) ?_|refine Eq'.mk ?_|(refine AllN.mk fun i hi=> ?_;cbv)|(refine AllC.mk fun c hc hcm=> ?_;(try dsimp only at hc);cbv)|(refine AllS.mk fun r hr=> ?_;(try simp only[Dat.ok,Dat.dec,Leaf.ok,Leaf.val,Z0,Z1,Z2,Z3,Z4,Z5,Z6,Z7,Z8,Z9,Z10,Z11,Z12,Z13,Z14,qA]at hr);cbv)
  ·cbv
  ·cbv
   repeat' first|(refine Stp.mk ?_;cbv)|(refine Gen.mk fun r hr=> ?_;(try simp only[Dat.ok,Dat.dec,Leaf.ok,Leaf.val,Z0,Z1,Z2,Z3,Z4,Z5,Z6,Z7,Z8,Z9,Z10,Z11,Z12,Z13,Z14,qA,qB]at hr);cbv)|exact trivial|rfl|refine Both.mk ?_ ?_|(refine Imp.mk fun h=> ?_;(try dsimp only at h);(try simp only[nc,Int.toNat_natCast,ne_eq,zz]at h);(try simp only[nc]at h))|refine Ob.mk ?_ ?_|refine Chk.mk (by kernel_rfl) ?_|refine Eq'.mk ?_|(refine AllN.mk fun i hi=> ?_;cbv)|(refine AllC.mk fun c hc hcm=> ?_;(try dsimp only at hc);cbv)|(refine AllS.mk fun r hr=> ?_;(try simp only[Dat.ok,Dat.dec,Leaf.ok,Leaf.val,Z0,Z1,Z2,Z3,Z4,Z5,Z6,Z7,Z8,Z9,Z10,Z11,Z12,Z13,Z14,qA]at hr);cbv)
   all_goals ((try dsimp only at*);(try simp only[nc,Int.toNat_natCast,ne_eq,zz]at*);(try simp only[nc]at*))
   all_goals first
    |omega
    |(unfold InR;omega)
    |(refine fin _ _ _ (decide_eq_true ?_).symm
      apply List.ext_getElem hlen
      intro i h1 h2
      have:=hv i (by omega)
      simpa[h1,h2]using this)
    |(refine fin _ _ _ (decide_eq_false fun h=> ?_).symm
      subst h
      simp_all;done)
    |skip
   all_goals (
    refine⟨⟨k+1,by omega,fun j hj=> ?_⟩, ?_,trivial,rfl,by(try dsimp only);omega⟩
    ·rcases Nat.lt_succ_iff_lt_or_eq.1 hj with hj|rfl
     ·exact hv j hj
     ·first|assumption|(generalize l.getD j Dat.d0=a at*;generalize m.getD j Dat.d0=b at*;cases a;cases b;simp_all;done)
    ·cbv
     repeat' first|(refine Stp.mk ?_;cbv)|(refine Gen.mk fun r hr=> ?_;(try simp only[Dat.ok,Dat.dec,Leaf.ok,Leaf.val,Z0,Z1,Z2,Z3,Z4,Z5,Z6,Z7,Z8,Z9,Z10,Z11,Z12,Z13,Z14,qA,qB]at hr);cbv)|exact trivial|rfl|refine Both.mk ?_ ?_|(refine Imp.mk fun h=> ?_;(try dsimp only at h);(try simp only[nc,Int.toNat_natCast,ne_eq,zz]at h);(try simp only[nc]at h))|refine Ob.mk ?_ ?_|refine Chk.mk (by kernel_rfl) ?_|refine Eq'.mk ?_|(refine AllN.mk fun i hi=> ?_;cbv)|(refine AllC.mk fun c hc hcm=> ?_;(try dsimp only at hc);cbv)|(refine AllS.mk fun r hr=> ?_;(try simp only[Dat.ok,Dat.dec,Leaf.ok,Leaf.val,Z0,Z1,Z2,Z3,Z4,Z5,Z6,Z7,Z8,Z9,Z10,Z11,Z12,Z13,Z14,qA]at hr);cbv))
theorem qIt:qBf Tryz.prog 12 (qM qGv):=qS fun A p r h hp0=>by
 unfold qGv at h
 split at h
 ·rename_i l m
  cases h
  obtain⟨g0,g1,hp⟩:=hp0
  exact⟨rfl,qO.pre (A':=[Leaf.av fun _=>(Leaf.val l:(List Int)),Leaf.av fun _=>(Leaf.val m:(List Int))]) (qRz (Leaf.val l) (Leaf.val m) hp) (.mk (Leaf.hle _ g0) (.mk (Leaf.hle _ g1) (trivial)))⟩
 ·cases h
noncomputable def cSv:FuncId→Con:=fun f=>match f with
 |12=>qH (qM qGv)
 |_=>fun _ _ _=>Bad 1001
theorem qXs:qY Tryz.prog cSv:=fun f A H K h=>by
 unfold cSv at h
 split at h
 ·exact⟨⟨Tryz.f12,Tryz.func12,by kernel_rfl,by kernel_rfl⟩,qE qIt h⟩
 ·cases h
def qPH (r:Th (Bool)):AV:= .b fun _=>(r ())
def qIu (a:Vm) (b:Vm):Bool:=decide (a=b)
def qPI (a:Vm) (b:Vm):Prop:=a.regs.length≤9223372036854775807
def qIv:Det:=fun A=>match A with
 |[.agg a,.agg b]=>some (fun _=>Dat.ok Vm a∧Dat.ok Vm b∧qPI (Dat.dec a) (Dat.dec b),qPH fun _=>qIu (Dat.dec a) (Dat.dec b))
 |_=>none
set_option maxRecDepth 100000 in
set_option maxHeartbeats 4000000 in
theorem qRA (a:Vm) (b:Vm) (hp:qPI a b):qO Tryz.prog 11 [.agg (Dat.enc fun _=>a),.agg (Dat.enc fun _=>b)] [] (qAf (qPH fun _=>qIu a b) []):=by
 refine qAe qI zl qXs qD (keep:=[0,1,2,3,4]) Tryz.func11 rfl ?_
 have hp':a.regs.length≤9223372036854775807:=hp
 have e:(a=b)↔(a.at_=b.at_∧a.regs=b.regs∧a.halts=b.halts∧a.fault=b.fault):=by
  constructor
  ·rintro rfl;exact⟨rfl,rfl,rfl,rfl⟩
  ·obtain⟨a1,a2,a3,a4⟩:=a
   obtain⟨b1,b2,b3,b4⟩:=b
   rintro⟨h1,h2,h3,h4⟩
   dsimp only at h1 h2 h3 h4
   subst h1 h2 h3 h4
   rfl
 cbv
 repeat' first|(show Stp _;exfalso;first|omega|(exact h ‹_›)|(exact absurd ‹_› h)|(exact Bool.false_ne_true (h.symm.trans (show _=true by assumption))))|(refine Stp.mk ?_;cbv)|(refine Gen.mk fun r hr=> ?_;(try simp only[Dat.ok,Dat.dec,Leaf.ok,Leaf.val,Z0,Z1,Z2,Z3,Z4,Z5,Z6,Z7,Z8,Z9,Z10,Z11,Z12,Z13,Z14,qA,qB]at hr);cbv)|exact trivial|rfl|refine Both.mk ?_ ?_|(refine Imp.mk fun h=> ?_;(try dsimp only at h);(try simp only[nc,Int.toNat_natCast,ne_eq,zz]at h);(try simp only[nc]at h))|refine Ob.mk ?_ ?_|refine Chk.mk (by kernel_rfl) ?_|refine Eq'.mk ?_|(refine AllN.mk fun i hi=> ?_;cbv)|(refine AllC.mk fun c hc hcm=> ?_;(try dsimp only at hc);cbv)|(refine AllS.mk fun r hr=> ?_;(try simp only[Dat.ok,Dat.dec,Leaf.ok,Leaf.val,Z0,Z1,Z2,Z3,Z4,Z5,Z6,Z7,Z8,Z9,Z10,Z11,Z12,Z13,Z14,qA]at hr);cbv)
 all_goals ((try dsimp only at*);(try simp only[nc,Int.toNat_natCast,ne_eq,zz]at*);(try simp only[nc]at*))
 all_goals try simp only[Dat.dec,Leaf.val,Z0,Z1,Z2,Z3,Z4,Z5,Z6,Z7,Z8,Z9,Z10,Z11,Z12,Z13,Z14,qA]at*
 all_goals first
  |exact⟨⟨rfl,fun i _=>Dat.hok _⟩,⟨rfl,fun i _=>Dat.hok _⟩,hp'⟩
  |(show _=decide (a=b)
    rw[Bool.eq_iff_iff,decide_eq_true_iff,e]
    clear e
    simp_all [qDO]
    done)
  |fail
theorem qMm:qBf Tryz.prog 11 (qM qIv):=qS fun A p r h hp0=>by
 unfold qIv at h
 split at h
 ·rename_i a b
  cases h
  obtain⟨g0,g1,hp⟩:=hp0
  exact⟨rfl,qO.pre (A':=[.agg (Dat.enc fun _=>(Dat.dec a:Vm)),.agg (Dat.enc fun _=>(Dat.dec b:Vm))]) (qRA (Dat.dec a) (Dat.dec b) hp) (.mk (Dat.hle _ g0) (.mk (Dat.hle _ g1) (trivial)))⟩
 ·cases h
end Go.Proofs.YtiaiifcgbjlfoaaGreatDoor
