/- table.Times, walked. -/
import Derived.Test.YtiaiifcgbjlfoaaGreatDoorOfP
import Derived.Test.YtiaiifcgbjlfoaaGreatDoorTimesP
set_option linter.all false
namespace Go.Proofs.YtiaiifcgbjlfoaaGreatDoor
open Go Go.Abs
def qRw (r:Th (Set×Int)):AV:= .tup [.agg [.i .i64 fun _=>(r ()).1.size,.own 0 fun _=>(r ()).1.spans.length],.i .i64 fun _=>(r ()).2]
def qRx (r:Th (Set×Int)):Hp:=[qA2 108 fun _=>(r ()).1.spans]
def qXm (n:Int) (l:(List Span)):Prop:=l.length≤1099511627776
def qUp:PC:=fun A K=>match A with
 |[.i .i64 n,l]=>Ob (fun _=>Leaf.ok (List Span) l∧qXm (n ()) (Leaf.val l)) (Gen (α:=Set×Int) (fun _=>ofV (n ()) (Leaf.val l)) fun r=>K (qRw fun _=>r) (qRx fun _=>r))
 |_=>Bad 1002
noncomputable def cOf:FuncId→Con:=fun f=>match f with
 |63=>qH (qM qH6)
 |64=>qH qLG
 |65=>qEQ
 |_=>fun _ _ _=>Bad 1001
theorem qXn:qY Tryz.prog cOf:=fun f A H K h=>by
 unfold cOf at h
 split at h
 ·exact⟨⟨Tryz.f63,Tryz.func63,by kernel_rfl,by kernel_rfl⟩,qE qLU h⟩
 ·exact⟨⟨Tryz.f64,Tryz.func64,by kernel_rfl,by kernel_rfl⟩,qE qOh h⟩
 ·exact⟨⟨Tryz.f65,Tryz.func65,by kernel_rfl,by kernel_rfl⟩,qGj h⟩
 ·cases h
def dOf:FuncId→Option Dt:=fun f=>match f with
 |_=>none
theorem qXo:qBk Tryz.prog dOf:=fun f d h=>by
 unfold dOf at h
 split at h
 ·cases h
structure OfX (n:Int) (d:List Span) where
 k:Nat
 out:List Span
 hk:k≤d.length
 ho:out.length≤k
 hr:ofR n [] d=ofR n out (d.drop k)
theorem qBp (l:List Span) (k i:Nat) (v:Span) (hk:k<l.length):(l.set k v).getD i Dat.d0=bif decide (i=k)then v else l.getD i Dat.d0:=by
 rw[List.getD_eq_getElem?_getD,List.getElem?_set,List.getD_eq_getElem?_getD]
 by_cases h:i=k
 ·subst h;simp[hk]
 ·simp[h,Ne.symm h]
theorem qUq {n:Int}:qCw n=true↔¬(n<1∨1000000<n):=by unfold qCw;simp
theorem qUr {n:Int}:qCw n=false↔(n<1∨1000000<n):=by unfold qCw;simp;omega
set_option maxRecDepth 100000 in
set_option maxHeartbeats 4000000 in
theorem qXp (n:Int) (l:(List Span)) (hp:qXm n l):qO Tryz.prog 27 [.i .i64 fun _=>n,Leaf.av fun _=>l] [] (qAf (qRw fun _=>ofV n l) (qRx fun _=>ofV n l)):=by
 refine qAe qI zl qXn (qAb qI zl qXo mixed) (keep:=[0,1,4,5,6,8,9,12,16,24,25,26,27,45,57,63]) Tryz.func27 rfl ?_
 have hp':l.length≤1099511627776:=hp
 generalize hK:qAf (qRw fun _=>ofV n l) (qRx fun _=>ofV n l)=K
 cbv
 repeat' first|(refine Stp.mk ?_;cbv)|(refine Gen.mk fun r hr=> ?_;(try simp only[Dat.ok,Dat.dec,Leaf.ok,Leaf.val,Z0,Z1,Z2,Z3,Z4,Z5,Z6,Z7,Z8,Z9,Z10,Z11,Z12,Z13,Z14,qA,qB]at hr);cbv)|exact trivial|rfl|refine Both.mk ?_ ?_|(refine Imp.mk fun h=> ?_;(try dsimp only at h);(try simp only[nc,Int.toNat_natCast,ne_eq,zz]at h);(try simp only[nc]at h))|refine Ob.mk ?_ ?_|refine Chk.mk (by kernel_rfl) ?_|refine Eq'.mk ?_|(refine AllN.mk fun i hi=> ?_;cbv)|(refine AllC.mk fun c hc hcm=> ?_;(try dsimp only at hc);cbv)|(refine AllS.mk fun r hr=> ?_;(try simp only[Dat.ok,Dat.dec,Leaf.ok,Leaf.val,Z0,Z1,Z2,Z3,Z4,Z5,Z6,Z7,Z8,Z9,Z10,Z11,Z12,Z13,Z14,qA]at hr);cbv)
 all_goals ((try dsimp only at*);(try simp only[nc,Int.toNat_natCast,ne_eq,zz]at*);(try simp only[nc]at*))
 all_goals try rw[qUq]at*
 all_goals try rw[qUr]at*
 all_goals first
  |exact⟨⟨rfl,fun i _=>Dat.hok _⟩,by simp only[Dat.ok,Dat.dec,Leaf.ok,Leaf.val,Z0,Z1,Z2,Z3,Z4,Z5,Z6,Z7,Z8,Z9,Z10,Z11,Z12,Z13,Z14,qA];exact hp'⟩
  |exact⟨rfl,trivial,fun i _=>Dat.hok _,by have:r.length=l.length:=by{first|(subst hr;rfl)|(rw[hr])};omega⟩
  |(rw[←hK,qPA (by assumption)]
    cbv
    repeat' first|(refine Stp.mk ?_;cbv)|(refine Gen.mk fun r hr=> ?_;(try simp only[Dat.ok,Dat.dec,Leaf.ok,Leaf.val,Z0,Z1,Z2,Z3,Z4,Z5,Z6,Z7,Z8,Z9,Z10,Z11,Z12,Z13,Z14,qA,qB]at hr);cbv)|exact trivial|rfl|refine Both.mk ?_ ?_|(refine Imp.mk fun h=> ?_;(try dsimp only at h);(try simp only[nc,Int.toNat_natCast,ne_eq,zz]at h);(try simp only[nc]at h))|refine Ob.mk ?_ ?_|refine Chk.mk (by kernel_rfl) ?_|refine Eq'.mk ?_|(refine AllN.mk fun i hi=> ?_;cbv)|(refine AllC.mk fun c hc hcm=> ?_;(try dsimp only at hc);cbv)|(refine AllS.mk fun r hr=> ?_;(try simp only[Dat.ok,Dat.dec,Leaf.ok,Leaf.val,Z0,Z1,Z2,Z3,Z4,Z5,Z6,Z7,Z8,Z9,Z10,Z11,Z12,Z13,Z14,qA]at hr);cbv)
    (try all_goals (exact absurd hi (Nat.not_lt_zero _)))
    done)
  |(rw[←hK,qJP (by assumption) (by omega)]
    cbv
    repeat' first|(refine Stp.mk ?_;cbv)|(refine Gen.mk fun r hr=> ?_;(try simp only[Dat.ok,Dat.dec,Leaf.ok,Leaf.val,Z0,Z1,Z2,Z3,Z4,Z5,Z6,Z7,Z8,Z9,Z10,Z11,Z12,Z13,Z14,qA,qB]at hr);cbv)|exact trivial|rfl|refine Both.mk ?_ ?_|(refine Imp.mk fun h=> ?_;(try dsimp only at h);(try simp only[nc,Int.toNat_natCast,ne_eq,zz]at h);(try simp only[nc]at h))|refine Ob.mk ?_ ?_|refine Chk.mk (by kernel_rfl) ?_|refine Eq'.mk ?_|(refine AllN.mk fun i hi=> ?_;cbv)|(refine AllC.mk fun c hc hcm=> ?_;(try dsimp only at hc);cbv)|(refine AllS.mk fun r hr=> ?_;(try simp only[Dat.ok,Dat.dec,Leaf.ok,Leaf.val,Z0,Z1,Z2,Z3,Z4,Z5,Z6,Z7,Z8,Z9,Z10,Z11,Z12,Z13,Z14,qA]at hr);cbv)
    (try all_goals (exact absurd hi (Nat.not_lt_zero _)))
    done)
  |skip
 subst_vars
 rename_i hn l
 have hd:=hr
 generalize r=d at*
 clear hr
 have hdl:d.length=l.length:=hd.1.length_eq
 have hN:ofN n l=ofR n [] d:=(qXk hd).symm
 generalize hK:qAf (qRw fun _=>ofV n l) (qRx fun _=>ofV n l)=K
 refine LoopVC.frame [5,8,9,26,27,45,57,63] (OfX n d) (fun x=>[(26,.i .i64 fun _=>x.k),(5,.i .i64 fun _=>0)]) (fun x=>[(2,.blk [.i .i64 fun _=>n,.own 3 fun _=>x.out.length]),(3,qA2 108 fun _=>x.out)]) [3] (fun x=>d.length-x.k)
  ⟨0,[],Nat.zero_le _,Nat.zero_le _,by simp⟩ rfl (fun _=>rfl) ?_ ?_ fun⟨k,out,hk,ho,hr⟩=> ?_
 ·cbv
  repeat' first|(refine Stp.mk ?_;cbv)|(refine Gen.mk fun r hr=> ?_;(try simp only[Dat.ok,Dat.dec,Leaf.ok,Leaf.val,Z0,Z1,Z2,Z3,Z4,Z5,Z6,Z7,Z8,Z9,Z10,Z11,Z12,Z13,Z14,qA,qB]at hr);cbv)|exact trivial|rfl|refine Both.mk ?_ ?_|(refine Imp.mk fun h=> ?_;(try dsimp only at h);(try simp only[nc,Int.toNat_natCast,ne_eq,zz]at h);(try simp only[nc]at h))|refine Ob.mk ?_ ?_|refine Chk.mk (by kernel_rfl) ?_|refine Eq'.mk ?_|(refine AllN.mk fun i hi=> ?_;cbv)|(refine AllC.mk fun c hc hcm=> ?_;(try dsimp only at hc);cbv)|(refine AllS.mk fun r hr=> ?_;(try simp only[Dat.ok,Dat.dec,Leaf.ok,Leaf.val,Z0,Z1,Z2,Z3,Z4,Z5,Z6,Z7,Z8,Z9,Z10,Z11,Z12,Z13,Z14,qA]at hr);cbv)
 ·cbv
  repeat' first|(refine Stp.mk ?_;cbv)|(refine Gen.mk fun r hr=> ?_;(try simp only[Dat.ok,Dat.dec,Leaf.ok,Leaf.val,Z0,Z1,Z2,Z3,Z4,Z5,Z6,Z7,Z8,Z9,Z10,Z11,Z12,Z13,Z14,qA,qB]at hr);cbv)|exact trivial|rfl|refine Both.mk ?_ ?_|(refine Imp.mk fun h=> ?_;(try dsimp only at h);(try simp only[nc,Int.toNat_natCast,ne_eq,zz]at h);(try simp only[nc]at h))|refine Ob.mk ?_ ?_|refine Chk.mk (by kernel_rfl) ?_|refine Eq'.mk ?_|(refine AllN.mk fun i hi=> ?_;cbv)|(refine AllC.mk fun c hc hcm=> ?_;(try dsimp only at hc);cbv)|(refine AllS.mk fun r hr=> ?_;(try simp only[Dat.ok,Dat.dec,Leaf.ok,Leaf.val,Z0,Z1,Z2,Z3,Z4,Z5,Z6,Z7,Z8,Z9,Z10,Z11,Z12,Z13,Z14,qA]at hr);cbv)
  all_goals ((try dsimp only at*);(try simp only[nc,Int.toNat_natCast,ne_eq,zz]at*);(try simp only[nc]at*))
  all_goals trace_state
 have hx:k<d.length→ofR n [] d=if qGC n (d.getD k Dat.d0)then none else ofR n (qPN out (d.getD k Dat.d0)) (d.drop (k+1)):=fun hk'=>by rw[hr,qX Dat.d0 hk',ofR]
 ·cbv
  repeat' first|(refine Stp.mk ?_;cbv)|(refine Gen.mk fun r hr=> ?_;(try simp only[Dat.ok,Dat.dec,Leaf.ok,Leaf.val,Z0,Z1,Z2,Z3,Z4,Z5,Z6,Z7,Z8,Z9,Z10,Z11,Z12,Z13,Z14,qA,qB]at hr);cbv)|exact trivial|rfl|refine Both.mk ?_ ?_|(refine Imp.mk fun h=> ?_;(try dsimp only at h);(try simp only[nc,Int.toNat_natCast,ne_eq,zz]at h);(try simp only[nc]at h))|refine Ob.mk ?_ ?_|refine Chk.mk (by kernel_rfl) ?_|refine Eq'.mk ?_|(refine AllN.mk fun i hi=> ?_;cbv)|(refine AllC.mk fun c hc hcm=> ?_;(try dsimp only at hc);cbv)|(refine AllS.mk fun r hr=> ?_;(try simp only[Dat.ok,Dat.dec,Leaf.ok,Leaf.val,Z0,Z1,Z2,Z3,Z4,Z5,Z6,Z7,Z8,Z9,Z10,Z11,Z12,Z13,Z14,qA]at hr);cbv)
  all_goals ((try dsimp only at*);(try simp only[nc,Int.toNat_natCast,ne_eq,zz]at*);(try simp only[nc]at*))
  all_goals try rw[show out.getD ((out.length:Int)-1).toNat Dat.d0=qE1 out by unfold qE1;congr 1;omega]at h
  all_goals first
   |omega
   |(unfold InR;omega)
   |(exfalso;omega)
   |exact⟨Nat.le_refl _,Nat.le_refl _,by omega,by omega⟩
   |(rw[←hK,qMj hn (by omega) (by rw[hN,hx (by omega),if_pos (by unfold qGC;omega)])]
     cbv
     repeat' first|(refine Stp.mk ?_;cbv)|(refine Gen.mk fun r hr=> ?_;(try simp only[Dat.ok,Dat.dec,Leaf.ok,Leaf.val,Z0,Z1,Z2,Z3,Z4,Z5,Z6,Z7,Z8,Z9,Z10,Z11,Z12,Z13,Z14,qA,qB]at hr);cbv)|exact trivial|rfl|refine Both.mk ?_ ?_|(refine Imp.mk fun h=> ?_;(try dsimp only at h);(try simp only[nc,Int.toNat_natCast,ne_eq,zz]at h);(try simp only[nc]at h))|refine Ob.mk ?_ ?_|refine Chk.mk (by kernel_rfl) ?_|refine Eq'.mk ?_|(refine AllN.mk fun i hi=> ?_;cbv)|(refine AllC.mk fun c hc hcm=> ?_;(try dsimp only at hc);cbv)|(refine AllS.mk fun r hr=> ?_;(try simp only[Dat.ok,Dat.dec,Leaf.ok,Leaf.val,Z0,Z1,Z2,Z3,Z4,Z5,Z6,Z7,Z8,Z9,Z10,Z11,Z12,Z13,Z14,qA]at hr);cbv)
     (try all_goals exact absurd hi (Nat.not_lt_zero _))
     done)
   |(rw[←hK,qIq hn (by omega) (show ofN n l=some out by rw[hN,hr,drop_nil (by omega)];rfl)]
     cbv
     repeat' first|(refine Stp.mk ?_;cbv)|(refine Gen.mk fun r hr=> ?_;(try simp only[Dat.ok,Dat.dec,Leaf.ok,Leaf.val,Z0,Z1,Z2,Z3,Z4,Z5,Z6,Z7,Z8,Z9,Z10,Z11,Z12,Z13,Z14,qA,qB]at hr);cbv)|exact trivial|rfl|refine Both.mk ?_ ?_|(refine Imp.mk fun h=> ?_;(try dsimp only at h);(try simp only[nc,Int.toNat_natCast,ne_eq,zz]at h);(try simp only[nc]at h))|refine Ob.mk ?_ ?_|refine Chk.mk (by kernel_rfl) ?_|refine Eq'.mk ?_|(refine AllN.mk fun i hi=> ?_;cbv)|(refine AllC.mk fun c hc hcm=> ?_;(try dsimp only at hc);cbv)|(refine AllS.mk fun r hr=> ?_;(try simp only[Dat.ok,Dat.dec,Leaf.ok,Leaf.val,Z0,Z1,Z2,Z3,Z4,Z5,Z6,Z7,Z8,Z9,Z10,Z11,Z12,Z13,Z14,qA]at hr);cbv)
     done)
   |(refine⟨⟨k+1,out,by omega,by omega, ?_⟩, ?_, ?_,rfl,by(try dsimp only);omega⟩
     ·rw[hx (by omega),if_neg (by unfold qGC;omega),qPN,if_pos (by assumption)]
     ·cbv
      repeat' first|(refine Stp.mk ?_;cbv)|(refine Gen.mk fun r hr=> ?_;(try simp only[Dat.ok,Dat.dec,Leaf.ok,Leaf.val,Z0,Z1,Z2,Z3,Z4,Z5,Z6,Z7,Z8,Z9,Z10,Z11,Z12,Z13,Z14,qA,qB]at hr);cbv)|exact trivial|rfl|refine Both.mk ?_ ?_|(refine Imp.mk fun h=> ?_;(try dsimp only at h);(try simp only[nc,Int.toNat_natCast,ne_eq,zz]at h);(try simp only[nc]at h))|refine Ob.mk ?_ ?_|refine Chk.mk (by kernel_rfl) ?_|refine Eq'.mk ?_|(refine AllN.mk fun i hi=> ?_;cbv)|(refine AllC.mk fun c hc hcm=> ?_;(try dsimp only at hc);cbv)|(refine AllS.mk fun r hr=> ?_;(try simp only[Dat.ok,Dat.dec,Leaf.ok,Leaf.val,Z0,Z1,Z2,Z3,Z4,Z5,Z6,Z7,Z8,Z9,Z10,Z11,Z12,Z13,Z14,qA]at hr);cbv)
     ·cbv
      repeat' first|(refine Stp.mk ?_;cbv)|(refine Gen.mk fun r hr=> ?_;(try simp only[Dat.ok,Dat.dec,Leaf.ok,Leaf.val,Z0,Z1,Z2,Z3,Z4,Z5,Z6,Z7,Z8,Z9,Z10,Z11,Z12,Z13,Z14,qA,qB]at hr);cbv)|exact trivial|rfl|refine Both.mk ?_ ?_|(refine Imp.mk fun h=> ?_;(try dsimp only at h);(try simp only[nc,Int.toNat_natCast,ne_eq,zz]at h);(try simp only[nc]at h))|refine Ob.mk ?_ ?_|refine Chk.mk (by kernel_rfl) ?_|refine Eq'.mk ?_|(refine AllN.mk fun i hi=> ?_;cbv)|(refine AllC.mk fun c hc hcm=> ?_;(try dsimp only at hc);cbv)|(refine AllS.mk fun r hr=> ?_;(try simp only[Dat.ok,Dat.dec,Leaf.ok,Leaf.val,Z0,Z1,Z2,Z3,Z4,Z5,Z6,Z7,Z8,Z9,Z10,Z11,Z12,Z13,Z14,qA]at hr);cbv))
   |(by_cases hc:0<out.length∧(d.getD k Dat.d0).frm≤(qE1 out).to
     ·first
       |(exfalso;omega)
       |(have e0:((out.length:Int)-1).toNat=out.length-1:=by omega
         refine⟨⟨k+1,out.set (out.length-1) ⟨(qE1 out).frm,if(d.getD k Dat.d0).to>(qE1 out).to then(d.getD k Dat.d0).to else(qE1 out).to⟩,by omega,by rw[List.length_set];omega, ?_⟩, ?_, ?_,rfl,by(try dsimp only);omega⟩
         ·rw[hx (by omega),if_neg (by unfold qGC;omega),qPN,if_neg (by assumption),if_pos hc]
         ·cbv
          repeat' first|(refine Stp.mk ?_;cbv)|(refine Gen.mk fun r hr=> ?_;(try simp only[Dat.ok,Dat.dec,Leaf.ok,Leaf.val,Z0,Z1,Z2,Z3,Z4,Z5,Z6,Z7,Z8,Z9,Z10,Z11,Z12,Z13,Z14,qA,qB]at hr);cbv)|exact trivial|rfl|refine Both.mk ?_ ?_|(refine Imp.mk fun h=> ?_;(try dsimp only at h);(try simp only[nc,Int.toNat_natCast,ne_eq,zz]at h);(try simp only[nc]at h))|refine Ob.mk ?_ ?_|refine Chk.mk (by kernel_rfl) ?_|refine Eq'.mk ?_|(refine AllN.mk fun i hi=> ?_;cbv)|(refine AllC.mk fun c hc hcm=> ?_;(try dsimp only at hc);cbv)|(refine AllS.mk fun r hr=> ?_;(try simp only[Dat.ok,Dat.dec,Leaf.ok,Leaf.val,Z0,Z1,Z2,Z3,Z4,Z5,Z6,Z7,Z8,Z9,Z10,Z11,Z12,Z13,Z14,qA]at hr);cbv)
          all_goals simp
         ·cbv
          repeat' first|(refine Stp.mk ?_;cbv)|(refine Gen.mk fun r hr=> ?_;(try simp only[Dat.ok,Dat.dec,Leaf.ok,Leaf.val,Z0,Z1,Z2,Z3,Z4,Z5,Z6,Z7,Z8,Z9,Z10,Z11,Z12,Z13,Z14,qA,qB]at hr);cbv)|exact trivial|rfl|refine Both.mk ?_ ?_|(refine Imp.mk fun h=> ?_;(try dsimp only at h);(try simp only[nc,Int.toNat_natCast,ne_eq,zz]at h);(try simp only[nc]at h))|refine Ob.mk ?_ ?_|refine Chk.mk (by kernel_rfl) ?_|refine Eq'.mk ?_|(refine AllN.mk fun i hi=> ?_;cbv)|(refine AllC.mk fun c hc hcm=> ?_;(try dsimp only at hc);cbv)|(refine AllS.mk fun r hr=> ?_;(try simp only[Dat.ok,Dat.dec,Leaf.ok,Leaf.val,Z0,Z1,Z2,Z3,Z4,Z5,Z6,Z7,Z8,Z9,Z10,Z11,Z12,Z13,Z14,qA]at hr);cbv)
          all_goals ((try dsimp only at*);(try simp only[nc,Int.toNat_natCast,ne_eq,zz]at*);(try simp only[nc]at*))
          all_goals first
           |(simp;done)
           |(rw[e0,qBp _ _ _ _ (by omega)]
             by_cases hi2:i=out.length-1
             ·subst hi2;simp[qE1]
             ·simp[hi2])
           |fail)
     ·first
       |(exfalso;omega)
       |(refine⟨⟨k+1,out++[d.getD k Dat.d0],by omega,by rw[List.length_append];exact Nat.add_le_add_right ho 1, ?_⟩, ?_, ?_,rfl,by(try dsimp only);omega⟩
         ·rw[hx (by omega),if_neg (by unfold qGC;omega),qPN,if_neg (by assumption),if_neg hc]
         ·cbv
          repeat' first|(refine Stp.mk ?_;cbv)|(refine Gen.mk fun r hr=> ?_;(try simp only[Dat.ok,Dat.dec,Leaf.ok,Leaf.val,Z0,Z1,Z2,Z3,Z4,Z5,Z6,Z7,Z8,Z9,Z10,Z11,Z12,Z13,Z14,qA,qB]at hr);cbv)|exact trivial|rfl|refine Both.mk ?_ ?_|(refine Imp.mk fun h=> ?_;(try dsimp only at h);(try simp only[nc,Int.toNat_natCast,ne_eq,zz]at h);(try simp only[nc]at h))|refine Ob.mk ?_ ?_|refine Chk.mk (by kernel_rfl) ?_|refine Eq'.mk ?_|(refine AllN.mk fun i hi=> ?_;cbv)|(refine AllC.mk fun c hc hcm=> ?_;(try dsimp only at hc);cbv)|(refine AllS.mk fun r hr=> ?_;(try simp only[Dat.ok,Dat.dec,Leaf.ok,Leaf.val,Z0,Z1,Z2,Z3,Z4,Z5,Z6,Z7,Z8,Z9,Z10,Z11,Z12,Z13,Z14,qA]at hr);cbv)
          all_goals simp
         ·cbv
          repeat' first|(refine Stp.mk ?_;cbv)|(refine Gen.mk fun r hr=> ?_;(try simp only[Dat.ok,Dat.dec,Leaf.ok,Leaf.val,Z0,Z1,Z2,Z3,Z4,Z5,Z6,Z7,Z8,Z9,Z10,Z11,Z12,Z13,Z14,qA,qB]at hr);cbv)|exact trivial|rfl|refine Both.mk ?_ ?_|(refine Imp.mk fun h=> ?_;(try dsimp only at h);(try simp only[nc,Int.toNat_natCast,ne_eq,zz]at h);(try simp only[nc]at h))|refine Ob.mk ?_ ?_|refine Chk.mk (by kernel_rfl) ?_|refine Eq'.mk ?_|(refine AllN.mk fun i hi=> ?_;cbv)|(refine AllC.mk fun c hc hcm=> ?_;(try dsimp only at hc);cbv)|(refine AllS.mk fun r hr=> ?_;(try simp only[Dat.ok,Dat.dec,Leaf.ok,Leaf.val,Z0,Z1,Z2,Z3,Z4,Z5,Z6,Z7,Z8,Z9,Z10,Z11,Z12,Z13,Z14,qA]at hr);cbv)
          all_goals ((try dsimp only at*);(try simp only[nc,Int.toNat_natCast,ne_eq,zz]at*);(try simp only[nc]at*))
          all_goals first
           |(rw[qAE _ _ _ _ hi];cases decide (i<out.length)<;>rfl)
           |(simp;done)
           |fail))
   |fail
theorem qXq:qBf Tryz.prog 27 (qUp):=fun A K h=>by
 unfold qUp at h
 split at h
 ·rename_i n l
  cases h with
  |mk h1 h2=>
   obtain⟨g0,hp⟩:=h1
   refine qO.pre ?_ (A':=[.i .i64 fun _=>n (),Leaf.av fun _=>(Leaf.val l:(List Span))]) (.mk (.mk (.mk rfl) (.mk rfl)) (.mk (Leaf.hle _ g0) (trivial)))
   exact qO.out (K:=fun r H _=>K r H) (qXp (n ()) (Leaf.val l) hp) rfl h2.out
 ·cases h
end Go.Proofs.YtiaiifcgbjlfoaaGreatDoor

namespace Go.Proofs.YtiaiifcgbjlfoaaGreatDoor
open Go Go.Abs
def qK5 (r:Th (Set×Int)):AV:= .tup [.agg [.i .i64 fun _=>(r ()).1.size,.own 0 fun _=>(r ()).1.spans.length],.i .i64 fun _=>(r ()).2]
def qK6 (r:Th (Set×Int)):Hp:=[qA2 108 fun _=>(r ()).1.spans]
def qPF (t:Table) (n:Int):Prop:=t.windows.length≤9223372036854775807
noncomputable def cTm:FuncId→Con:=fun f=>match f with
 |25=>qH (qM qJK)
 |26=>qH (qM qL1)
 |27=>qH qUp
 |_=>fun _ _ _=>Bad 1001
theorem qXr:qY Tryz.prog cTm:=fun f A H K h=>by
 unfold cTm at h
 split at h
 ·exact⟨⟨Tryz.f25,Tryz.func25,by kernel_rfl,by kernel_rfl⟩,qE qKT h⟩
 ·exact⟨⟨Tryz.f26,Tryz.func26,by kernel_rfl,by kernel_rfl⟩,qE qO4 h⟩
 ·exact⟨⟨Tryz.f27,Tryz.func27,by kernel_rfl,by kernel_rfl⟩,qE qXq h⟩
 ·cases h
structure TmX (t:Table) (n:Int) where
 k:Nat
 out:List Span
 hk:k≤t.windows.length
 hl:out.length≤k
 hr:tmL n t.windows=out++tmL n (t.windows.drop k)
set_option maxRecDepth 100000 in
set_option maxHeartbeats 4000000 in
theorem qRy (t:Table) (n:Int) (hp:qPF t n):qO Tryz.prog 8 [.agg (Dat.enc fun _=>t),.i .i64 fun _=>n] [] (qAf (qK5 fun _=>qAw t n) (qK6 fun _=>qAw t n)):=by
 refine qAe qI zl qXr qD (keep:=[0,1,2,4,5,6,7,9,13,18,21,22,23,24,30]) Tryz.func8 rfl ?_
 have hp':t.windows.length≤9223372036854775807:=hp
 have fin0:∀(e:Int) kl H,qAw t n=(⟨0,[]⟩,e)→qAf (qK5 fun _=>qAw t n) (qK6 fun _=>qAw t n) (.tup [.agg [.i .i64 fun _=>0,.nil],.i .i64 fun _=>e]) H kl:=fun e kl H h=>by
  rw[h]
  cbv
  repeat' first|(refine Stp.mk ?_;cbv)|(refine Gen.mk fun r hr=> ?_;(try simp only[Dat.ok,Dat.dec,Leaf.ok,Leaf.val,Z0,Z1,Z2,Z3,Z4,Z5,Z6,Z7,Z8,Z9,Z10,Z11,Z12,Z13,Z14,qA,qB]at hr);cbv)|exact trivial|rfl|refine Both.mk ?_ ?_|(refine Imp.mk fun h=> ?_;(try dsimp only at h);(try simp only[nc,Int.toNat_natCast,ne_eq,zz]at h);(try simp only[nc]at h))|refine Ob.mk ?_ ?_|refine Chk.mk (by kernel_rfl) ?_|refine Eq'.mk ?_|(refine AllN.mk fun i hi=> ?_;cbv)|(refine AllC.mk fun c hc hcm=> ?_;(try dsimp only at hc);cbv)|(refine AllS.mk fun r hr=> ?_;(try simp only[Dat.ok,Dat.dec,Leaf.ok,Leaf.val,Z0,Z1,Z2,Z3,Z4,Z5,Z6,Z7,Z8,Z9,Z10,Z11,Z12,Z13,Z14,qA]at hr);cbv)
  all_goals first|rfl|(exfalso;omega)
 generalize hK:qAf (qK5 fun _=>qAw t n) (qK6 fun _=>qAw t n)=K at fin0 ⊢
 cbv
 repeat' first|(show Stp _;exfalso;first|omega|(exact h ‹_›)|(exact absurd ‹_› h)|(exact Bool.false_ne_true (h.symm.trans (show _=true by assumption))))|(refine Stp.mk ?_;cbv)|(refine Gen.mk fun r hr=> ?_;(try simp only[Dat.ok,Dat.dec,Leaf.ok,Leaf.val,Z0,Z1,Z2,Z3,Z4,Z5,Z6,Z7,Z8,Z9,Z10,Z11,Z12,Z13,Z14,qA,qB]at hr);cbv)|exact trivial|rfl|refine Both.mk ?_ ?_|(refine Imp.mk fun h=> ?_;(try dsimp only at h);(try simp only[nc,Int.toNat_natCast,ne_eq,zz]at h);(try simp only[nc]at h))|refine Ob.mk ?_ ?_|refine Chk.mk (by kernel_rfl) ?_|refine Eq'.mk ?_|(refine AllN.mk fun i hi=> ?_;cbv)|(refine AllC.mk fun c hc hcm=> ?_;(try dsimp only at hc);cbv)|(refine AllS.mk fun r hr=> ?_;(try simp only[Dat.ok,Dat.dec,Leaf.ok,Leaf.val,Z0,Z1,Z2,Z3,Z4,Z5,Z6,Z7,Z8,Z9,Z10,Z11,Z12,Z13,Z14,qA]at hr);cbv)
 all_goals ((try dsimp only at*);(try simp only[nc,Int.toNat_natCast,ne_eq,zz]at*);(try simp only[nc]at*))
 all_goals try simp only[Dat.dec,Leaf.val,Z0,Z1,Z2,Z3,Z4,Z5,Z6,Z7,Z8,Z9,Z10,Z11,Z12,Z13,Z14,qA]at*
 all_goals first
  |exact⟨⟨trivial,rfl,fun i _=>Dat.hok _⟩,hp'⟩
  |(refine fin0 _ _ _ ?_
    first
     |(rw[qAw,if_neg (by assumption)];done)
     |(rw[qAw,if_pos (by assumption),if_neg (by simp_all)];done))
  |skip
 have hw:qBJ t=0:=by assumption
 have hR:=qBA.1 hw
 have hn:ownB n=true:=by assumption
 have s1:=hR.s1
 have s2:=hR.s2
 have hlen:=hR.len
 have hT:qAw t n=ofV t.frame (tmL n t.windows):=by rw[qAw,if_pos hw,if_pos hn]
 refine LoopVC.frame [7,9,23,24,30] (TmX t n) (fun x=>[(23,.i .i64 fun _=>x.k),(7,.own 2 fun _=>x.out.length)]) (fun x=>[(2,qA2 108 fun _=>x.out)]) [2] (fun x=>t.windows.length-x.k) ⟨0,[],Nat.zero_le _,Nat.le_refl _,by rw[List.drop_zero];rfl⟩ rfl (fun _=>rfl) ?_ ?_ fun⟨k,out,hk,hl,hr⟩=> ?_
 iterate 2
  ·cbv
   repeat' first|(refine Stp.mk ?_;cbv)|(refine Gen.mk fun r hr=> ?_;(try simp only[Dat.ok,Dat.dec,Leaf.ok,Leaf.val,Z0,Z1,Z2,Z3,Z4,Z5,Z6,Z7,Z8,Z9,Z10,Z11,Z12,Z13,Z14,qA,qB]at hr);cbv)|exact trivial|rfl|refine Both.mk ?_ ?_|(refine Imp.mk fun h=> ?_;(try dsimp only at h);(try simp only[nc,Int.toNat_natCast,ne_eq,zz]at h);(try simp only[nc]at h))|refine Ob.mk ?_ ?_|refine Chk.mk (by kernel_rfl) ?_|refine Eq'.mk ?_|(refine AllN.mk fun i hi=> ?_;cbv)|(refine AllC.mk fun c hc hcm=> ?_;(try dsimp only at hc);cbv)|(refine AllS.mk fun r hr=> ?_;(try simp only[Dat.ok,Dat.dec,Leaf.ok,Leaf.val,Z0,Z1,Z2,Z3,Z4,Z5,Z6,Z7,Z8,Z9,Z10,Z11,Z12,Z13,Z14,qA]at hr);cbv)
 ·cbv
  repeat' first|(show Stp _;exfalso;first|omega|(exact h ‹_›)|(exact absurd ‹_› h)|(exact Bool.false_ne_true (h.symm.trans (show _=true by assumption))))|(refine Stp.mk ?_;cbv)|(refine Gen.mk fun r hr=> ?_;(try simp only[Dat.ok,Dat.dec,Leaf.ok,Leaf.val,Z0,Z1,Z2,Z3,Z4,Z5,Z6,Z7,Z8,Z9,Z10,Z11,Z12,Z13,Z14,qA,qB]at hr);cbv)|exact trivial|rfl|refine Both.mk ?_ ?_|(refine Imp.mk fun h=> ?_;(try dsimp only at h);(try simp only[nc,Int.toNat_natCast,ne_eq,zz]at h);(try simp only[nc]at h))|refine Ob.mk ?_ ?_|refine Chk.mk (by kernel_rfl) ?_|refine Eq'.mk ?_|(refine AllN.mk fun i hi=> ?_;cbv)|(refine AllC.mk fun c hc hcm=> ?_;(try dsimp only at hc);cbv)|(refine AllS.mk fun r hr=> ?_;(try simp only[Dat.ok,Dat.dec,Leaf.ok,Leaf.val,Z0,Z1,Z2,Z3,Z4,Z5,Z6,Z7,Z8,Z9,Z10,Z11,Z12,Z13,Z14,qA]at hr);cbv)
  all_goals ((try dsimp only at*);(try simp only[nc,Int.toNat_natCast,ne_eq,zz]at*);(try simp only[nc]at*))
  all_goals try rw[nc]at*
  all_goals try simp only[Dat.dec,Leaf.val,Z0,Z1,Z2,Z3,Z4,Z5,Z6,Z7,Z8,Z9,Z10,Z11,Z12,Z13,Z14,qA]at*
  all_goals first
   |omega
   |exact⟨by omega,by omega⟩
   |exact⟨Nat.le_refl _,trivial,by omega,by omega⟩
   |exact⟨Nat.le_refl _,Nat.le_refl _,by omega,by omega⟩
   |(unfold InR;omega)
   |(have hb:=qO3 hR (show k<t.windows.length by omega);unfold InR;omega)
   |skip
  ·have hk2:k<t.windows.length:=by omega
   refine⟨⟨k+1,out++[⟨(t.windows.getD k Dat.d0).frm,(t.windows.getD k Dat.d0).frm+(t.windows.getD k Dat.d0).long⟩],by omega,by rw[List.length_append,List.length_singleton];omega,by rw[hr,qMl hk2,if_pos (by assumption)];simp⟩, ?_, ?_,rfl,by(try dsimp only);omega⟩
   ·cbv
    repeat' first|(refine Stp.mk ?_;cbv)|(refine Gen.mk fun r hr=> ?_;(try simp only[Dat.ok,Dat.dec,Leaf.ok,Leaf.val,Z0,Z1,Z2,Z3,Z4,Z5,Z6,Z7,Z8,Z9,Z10,Z11,Z12,Z13,Z14,qA,qB]at hr);cbv)|exact trivial|rfl|refine Both.mk ?_ ?_|(refine Imp.mk fun h=> ?_;(try dsimp only at h);(try simp only[nc,Int.toNat_natCast,ne_eq,zz]at h);(try simp only[nc]at h))|refine Ob.mk ?_ ?_|refine Chk.mk (by kernel_rfl) ?_|refine Eq'.mk ?_|(refine AllN.mk fun i hi=> ?_;cbv)|(refine AllC.mk fun c hc hcm=> ?_;(try dsimp only at hc);cbv)|(refine AllS.mk fun r hr=> ?_;(try simp only[Dat.ok,Dat.dec,Leaf.ok,Leaf.val,Z0,Z1,Z2,Z3,Z4,Z5,Z6,Z7,Z8,Z9,Z10,Z11,Z12,Z13,Z14,qA]at hr);cbv)
    all_goals first|rfl|(rw[List.length_append,List.length_singleton];done)
   ·cbv
    repeat' first|(refine Stp.mk ?_;cbv)|(refine Gen.mk fun r hr=> ?_;(try simp only[Dat.ok,Dat.dec,Leaf.ok,Leaf.val,Z0,Z1,Z2,Z3,Z4,Z5,Z6,Z7,Z8,Z9,Z10,Z11,Z12,Z13,Z14,qA,qB]at hr);cbv)|exact trivial|rfl|refine Both.mk ?_ ?_|(refine Imp.mk fun h=> ?_;(try dsimp only at h);(try simp only[nc,Int.toNat_natCast,ne_eq,zz]at h);(try simp only[nc]at h))|refine Ob.mk ?_ ?_|refine Chk.mk (by kernel_rfl) ?_|refine Eq'.mk ?_|(refine AllN.mk fun i hi=> ?_;cbv)|(refine AllC.mk fun c hc hcm=> ?_;(try dsimp only at hc);cbv)|(refine AllS.mk fun r hr=> ?_;(try simp only[Dat.ok,Dat.dec,Leaf.ok,Leaf.val,Z0,Z1,Z2,Z3,Z4,Z5,Z6,Z7,Z8,Z9,Z10,Z11,Z12,Z13,Z14,qA]at hr);cbv)
    all_goals ((try dsimp only at*);(try simp only[nc,Int.toNat_natCast,ne_eq,zz]at*);(try simp only[nc]at*))
    all_goals first
     |(rw[List.length_append,List.length_singleton];done)
     |(rw[qAE _ _ _ _ (by omega)];cases decide (i<out.length)<;>rfl)
     |fail
  ·have hk2:k<t.windows.length:=by omega
   refine⟨⟨k+1,out,by omega,by omega,by rw[hr,qMl hk2,if_neg (by assumption)]⟩, ?_, ?_,rfl,by(try dsimp only);omega⟩
   iterate 2
    ·cbv
     repeat' first|(refine Stp.mk ?_;cbv)|(refine Gen.mk fun r hr=> ?_;(try simp only[Dat.ok,Dat.dec,Leaf.ok,Leaf.val,Z0,Z1,Z2,Z3,Z4,Z5,Z6,Z7,Z8,Z9,Z10,Z11,Z12,Z13,Z14,qA,qB]at hr);cbv)|exact trivial|rfl|refine Both.mk ?_ ?_|(refine Imp.mk fun h=> ?_;(try dsimp only at h);(try simp only[nc,Int.toNat_natCast,ne_eq,zz]at h);(try simp only[nc]at h))|refine Ob.mk ?_ ?_|refine Chk.mk (by kernel_rfl) ?_|refine Eq'.mk ?_|(refine AllN.mk fun i hi=> ?_;cbv)|(refine AllC.mk fun c hc hcm=> ?_;(try dsimp only at hc);cbv)|(refine AllS.mk fun r hr=> ?_;(try simp only[Dat.ok,Dat.dec,Leaf.ok,Leaf.val,Z0,Z1,Z2,Z3,Z4,Z5,Z6,Z7,Z8,Z9,Z10,Z11,Z12,Z13,Z14,qA]at hr);cbv)
  ·exact⟨⟨rfl,fun i _=>Dat.hok _⟩,show out.length≤1099511627776 by omega⟩
  ·rename (_=ofV _ _)=>hq
   have e:r=qAw t n:=by
    rw[hq,hT,hr,List.drop_eq_nil_of_le (by omega),tmL,List.append_nil]
   subst e
   rw[←hK]
   cbv
   repeat' first|(refine Stp.mk ?_;cbv)|(refine Gen.mk fun r hr=> ?_;(try simp only[Dat.ok,Dat.dec,Leaf.ok,Leaf.val,Z0,Z1,Z2,Z3,Z4,Z5,Z6,Z7,Z8,Z9,Z10,Z11,Z12,Z13,Z14,qA,qB]at hr);cbv)|exact trivial|rfl|refine Both.mk ?_ ?_|(refine Imp.mk fun h=> ?_;(try dsimp only at h);(try simp only[nc,Int.toNat_natCast,ne_eq,zz]at h);(try simp only[nc]at h))|refine Ob.mk ?_ ?_|refine Chk.mk (by kernel_rfl) ?_|refine Eq'.mk ?_|(refine AllN.mk fun i hi=> ?_;cbv)|(refine AllC.mk fun c hc hcm=> ?_;(try dsimp only at hc);cbv)|(refine AllS.mk fun r hr=> ?_;(try simp only[Dat.ok,Dat.dec,Leaf.ok,Leaf.val,Z0,Z1,Z2,Z3,Z4,Z5,Z6,Z7,Z8,Z9,Z10,Z11,Z12,Z13,Z14,qA]at hr);cbv)
end Go.Proofs.YtiaiifcgbjlfoaaGreatDoor
