/- The program's functions, walked: Span. -/
import Derived.Test.YtiaiifcgbjlfoaaGreatDoorTy
set_option linter.all false
namespace Go.Proofs.YtiaiifcgbjlfoaaGreatDoor
open Go Go.Abs
def qCw (n:Int):Bool:=decide (1≤n)&&decide (n≤1000000)
def qFu (size:Int):Int→List Span→Bool
 |_,[]=>true
 |last,x::r=>decide (last<x.frm)&&decide (x.frm<x.to)&&decide (x.to≤size)&&qFu size x.to r
def qCd (s:Set):Int:=if qCw s.size=true then(if 200<s.spans.length then 2 else if qFu s.size (-1) s.spans=true then 0 else 4)else 1
def mx0 (n:Int):Int:=if n>0 then n else 0
theorem qWy (n:Int):0≤mx0 n:=by unfold mx0;split<;>omega
def mn (a b:Int):Int:=if b<a then b else a
def long:List Span→Int
 |[]=>0
 |x::r=>(x.to-x.frm)+long r
def part (t:Int):List Span→Int
 |[]=>0
 |x::r=>mx0 (mn x.to t-x.frm)+part t r
def qCl (s:Set) (t:Int):Int:=t.tdiv s.size*long s.spans+part (t.tmod s.size) s.spans
def qDz (s:Set) (a b:Int):Int×Int:=
 if qCd s=0 then(if a<0∨b<a∨1099511627776<b then(0,1)else(qCl s b-qCl s a,0))else(0,qCd s)
structure Right (s:Set):Prop where
 s1:1≤s.size
 s2:s.size≤1000000
 len:s.spans.length≤200
 ok:qFu s.size (-1) s.spans=true
theorem qJH {s:Set}:qCd s=0↔Right s:=by
 unfold qCd qCw
 constructor
 ·intro h
  split at h
  ·rename_i h1
   simp only[Bool.and_eq_true,decide_eq_true_eq]at h1
   split at h
   ·cases h
   ·split at h
    ·exact⟨h1.1,h1.2,by omega,by assumption⟩
    ·cases h
  ·cases h
 ·rintro⟨h1,h2,h3,h4⟩
  simp[h1,h2,h4];omega
theorem qBP {size last:Int}{x:Span}{r:List Span}:qFu size last (x::r)=true↔last<x.frm∧x.frm<x.to∧x.to≤size∧qFu size x.to r=true:=by
 simp[qFu,and_assoc]
theorem qBI {size:Int}:∀{l:List Span}{last:Int},qFu size last l=true→0≤long l∧(l≠[]→long l+last<size)∧∀x∈l,last<x.frm∧x.frm<x.to∧x.to≤size
 |[],_,_=>⟨Int.le_refl _,fun h=>absurd rfl h,by simp⟩
 |x::r,last,h=>by
  obtain⟨h1,h2,h3,h4⟩:=qBP.1 h
  obtain⟨i1,i2,i3⟩:=qBI h4
  refine⟨by simp only[long];omega,fun _=> ?_,fun y hy=> ?_⟩
  ·simp only[long]
   by_cases hr:r=[]
   ·subst hr;simp[long];omega
   ·have:=i2 hr;omega
  ·rcases List.mem_cons.1 hy with rfl|hy
   ·exact⟨h1,h2,h3⟩
   ·have:=i3 y hy;exact⟨by omega,this.2⟩
theorem qOV {size last:Int}{l:List Span}(h:∀x∈l,last<x.frm∧x.frm<x.to∧x.to≤size):0≤long l:=by
 induction l with
 |nil=>exact Int.le_refl _
 |cons x r ih=>
  have h1:=h x (by simp)
  have h2:=ih fun y hy=>h y (by simp[hy])
  simp only[long];omega
theorem qH5 {t:Int}{l:List Span}(h:∀x∈l,x.frm<x.to):0≤part t l∧part t l≤long l:=by
 induction l with
 |nil=>exact⟨Int.le_refl _,Int.le_refl _⟩
 |cons x r ih=>
  have h1:=h x (by simp)
  have h2:=ih fun y hy=>h y (by simp[hy])
  simp only[long,part,mx0,mn]
  constructor<;>(repeat' split)<;>omega
def qOW (r:Th (Bool)):AV:= .b fun _=>(r ())
def qH6:Det:=fun A=>match A with
 |[.i .i64 n]=>some (fun _=>True,qOW fun _=>qCw (n ()))
 |_=>none
def qH7 (r:Th (Int)):AV:= .i .i64 fun _=>(r ())
def qOX (s:Set):Prop:=s.spans.length≤9223372036854775807
def qKO:Det:=fun A=>match A with
 |[.agg s]=>some (fun _=>Dat.ok Set s∧qOX (Dat.dec s),qH7 fun _=>qCd (Dat.dec s))
 |_=>none
def qLT (r:Th (Int)):AV:= .i .i64 fun _=>(r ())
def qSi (s:Set) (t:Int):Prop:=Right s∧0≤t∧t≤1099511627776
def qOY:Det:=fun A=>match A with
 |[.agg s,.i .i64 t]=>some (fun _=>Dat.ok Set s∧qSi (Dat.dec s) (t ()),qLT fun _=>qCl (Dat.dec s) (t ()))
 |_=>none
def qH8 (r:Th (Int×Int)):AV:= .tup [.i .i64 fun _=>(r ()).1,.i .i64 fun _=>(r ()).2]
def qOZ (s:Set) (a:Int) (b:Int):Prop:=s.spans.length≤9223372036854775807
def qKP:Det:=fun A=>match A with
 |[.agg s,.i .i64 a,.i .i64 b]=>some (fun _=>Dat.ok Set s∧qOZ (Dat.dec s) (a ()) (b ()),qH8 fun _=>qDz (Dat.dec s) (a ()) (b ()))
 |_=>none
set_option maxRecDepth 100000 in
set_option maxHeartbeats 4000000 in
theorem qQN (n:Int):qO Tryz.prog 63 [.i .i64 fun _=>n] [] (qAf (qOW fun _=>qCw n) []):=by
 refine qAe qI zl qP qD (keep:=[0,2]) Tryz.func63 rfl ?_
 cbv
 repeat' first|(refine Stp.mk ?_;cbv)|(refine Gen.mk fun r hr=> ?_;(try simp only[Dat.ok,Dat.dec,Leaf.ok,Leaf.val,Z0,Z1,Z2,Z3,Z4,Z5,Z6,Z7,Z8,Z9,Z10,Z11,Z12,Z13,Z14,qA,qB]at hr);cbv)|exact trivial|rfl|refine Both.mk ?_ ?_|(refine Imp.mk fun h=> ?_;(try dsimp only at h);(try simp only[nc,Int.toNat_natCast,ne_eq,zz]at h);(try simp only[nc]at h))|refine Ob.mk ?_ ?_|refine Chk.mk (by kernel_rfl) ?_|refine Eq'.mk ?_|(refine AllN.mk fun i hi=> ?_;cbv)|(refine AllC.mk fun c hc hcm=> ?_;(try dsimp only at hc);cbv)|(refine AllS.mk fun r hr=> ?_;(try simp only[Dat.ok,Dat.dec,Leaf.ok,Leaf.val,Z0,Z1,Z2,Z3,Z4,Z5,Z6,Z7,Z8,Z9,Z10,Z11,Z12,Z13,Z14,qA]at hr);cbv)
 all_goals ((try dsimp only at*);(try simp only[nc,Int.toNat_natCast,ne_eq,zz]at*);(try simp only[nc]at*))
 all_goals simp_all [qCw]
 all_goals omega
theorem qLU:qBf Tryz.prog 63 (qM qH6):=qS fun A p r h hp0=>by
 unfold qH6 at h
 split at h
 ·rename_i n
  cases h
  exact⟨rfl,qO.pre (A':=[.i .i64 fun _=>n ()]) (qQN (n ())) (.mk (.mk (.mk rfl) (.mk rfl)) (trivial))⟩
 ·cases h
noncomputable def qYr:FuncId→Con:=fun f=>match f with
 |63=>qH (qM qH6)
 |_=>fun _ _ _=>Bad 1001
theorem qTx:qY Tryz.prog qYr:=fun f A H K h=>by
 unfold qYr at h
 split at h
 ·exact⟨⟨Tryz.f63,Tryz.func63,by kernel_rfl,by kernel_rfl⟩,qE qLU h⟩
 ·cases h
structure ChX (s:Set) where
 k:Nat
 last:Int
 hk:k≤s.spans.length
 hr:qFu s.size (-1) s.spans=qFu s.size last (s.spans.drop k)
set_option maxRecDepth 100000 in
set_option maxHeartbeats 4000000 in
theorem qQO (s:Set) (hp:qOX s):qO Tryz.prog 28 [.agg (Dat.enc fun _=>s)] [] (qAf (qH7 fun _=>qCd s) []):=by
 refine qAe qI zl qTx qD (keep:=[0,1,2,3,5,9,13,15,16,17,18,38]) Tryz.func28 rfl ?_
 have hp':s.spans.length≤9223372036854775807:=hp
 have fin:∀e H kl,e=qCd s→qAf (qH7 fun _=>qCd s) [] (.i .i64 fun _=>e) H kl:=by
  rintro e H kl rfl
  cbv
  repeat' first|(refine Stp.mk ?_;cbv)|(refine Gen.mk fun r hr=> ?_;(try simp only[Dat.ok,Dat.dec,Leaf.ok,Leaf.val,Z0,Z1,Z2,Z3,Z4,Z5,Z6,Z7,Z8,Z9,Z10,Z11,Z12,Z13,Z14,qA,qB]at hr);cbv)|exact trivial|rfl|refine Both.mk ?_ ?_|(refine Imp.mk fun h=> ?_;(try dsimp only at h);(try simp only[nc,Int.toNat_natCast,ne_eq,zz]at h);(try simp only[nc]at h))|refine Ob.mk ?_ ?_|refine Chk.mk (by kernel_rfl) ?_|refine Eq'.mk ?_|(refine AllN.mk fun i hi=> ?_;cbv)|(refine AllC.mk fun c hc hcm=> ?_;(try dsimp only at hc);cbv)|(refine AllS.mk fun r hr=> ?_;(try simp only[Dat.ok,Dat.dec,Leaf.ok,Leaf.val,Z0,Z1,Z2,Z3,Z4,Z5,Z6,Z7,Z8,Z9,Z10,Z11,Z12,Z13,Z14,qA]at hr);cbv)
 generalize qAf (qH7 fun _=>qCd s) []=K at fin
 cbv
 repeat' first|(refine Stp.mk ?_;cbv)|(refine Gen.mk fun r hr=> ?_;(try simp only[Dat.ok,Dat.dec,Leaf.ok,Leaf.val,Z0,Z1,Z2,Z3,Z4,Z5,Z6,Z7,Z8,Z9,Z10,Z11,Z12,Z13,Z14,qA,qB]at hr);cbv)|exact trivial|rfl|refine Both.mk ?_ ?_|(refine Imp.mk fun h=> ?_;(try dsimp only at h);(try simp only[nc,Int.toNat_natCast,ne_eq,zz]at h);(try simp only[nc]at h))|refine Ob.mk ?_ ?_|refine Chk.mk (by kernel_rfl) ?_|refine Eq'.mk ?_|(refine AllN.mk fun i hi=> ?_;cbv)|(refine AllC.mk fun c hc hcm=> ?_;(try dsimp only at hc);cbv)|(refine AllS.mk fun r hr=> ?_;(try simp only[Dat.ok,Dat.dec,Leaf.ok,Leaf.val,Z0,Z1,Z2,Z3,Z4,Z5,Z6,Z7,Z8,Z9,Z10,Z11,Z12,Z13,Z14,qA]at hr);cbv)
 all_goals ((try dsimp only at*);(try simp only[nc,Int.toNat_natCast,ne_eq,zz]at*);(try simp only[nc]at*))
 all_goals first
  |(refine fin _ _ _ ?_;simp_all [qCd];done)
  |skip
 ·refine fin _ _ _ ?_
  rw[qCd,if_pos (by assumption),if_pos (by omega)]
 ·have hs:qCw s.size=true:=by assumption
  refine LoopVC.frame [2,3,5,17,18,38] (ChX s) (fun x=>[(17,.i .i64 fun _=>x.k),(3,.i .i64 fun _=>x.last)]) (fun _=>[]) [] (fun x=>s.spans.length-x.k) ⟨0,-1,Nat.zero_le _,by simp⟩ rfl (fun _=>rfl) ?_ ?_ fun⟨k,last,hk,hr⟩=> ?_
  iterate 2
   ·cbv
    repeat' first|(refine Stp.mk ?_;cbv)|(refine Gen.mk fun r hr=> ?_;(try simp only[Dat.ok,Dat.dec,Leaf.ok,Leaf.val,Z0,Z1,Z2,Z3,Z4,Z5,Z6,Z7,Z8,Z9,Z10,Z11,Z12,Z13,Z14,qA,qB]at hr);cbv)|exact trivial|rfl|refine Both.mk ?_ ?_|(refine Imp.mk fun h=> ?_;(try dsimp only at h);(try simp only[nc,Int.toNat_natCast,ne_eq,zz]at h);(try simp only[nc]at h))|refine Ob.mk ?_ ?_|refine Chk.mk (by kernel_rfl) ?_|refine Eq'.mk ?_|(refine AllN.mk fun i hi=> ?_;cbv)|(refine AllC.mk fun c hc hcm=> ?_;(try dsimp only at hc);cbv)|(refine AllS.mk fun r hr=> ?_;(try simp only[Dat.ok,Dat.dec,Leaf.ok,Leaf.val,Z0,Z1,Z2,Z3,Z4,Z5,Z6,Z7,Z8,Z9,Z10,Z11,Z12,Z13,Z14,qA]at hr);cbv)
  ·cbv
   repeat' first|(refine Stp.mk ?_;cbv)|(refine Gen.mk fun r hr=> ?_;(try simp only[Dat.ok,Dat.dec,Leaf.ok,Leaf.val,Z0,Z1,Z2,Z3,Z4,Z5,Z6,Z7,Z8,Z9,Z10,Z11,Z12,Z13,Z14,qA,qB]at hr);cbv)|exact trivial|rfl|refine Both.mk ?_ ?_|(refine Imp.mk fun h=> ?_;(try dsimp only at h);(try simp only[nc,Int.toNat_natCast,ne_eq,zz]at h);(try simp only[nc]at h))|refine Ob.mk ?_ ?_|refine Chk.mk (by kernel_rfl) ?_|refine Eq'.mk ?_|(refine AllN.mk fun i hi=> ?_;cbv)|(refine AllC.mk fun c hc hcm=> ?_;(try dsimp only at hc);cbv)|(refine AllS.mk fun r hr=> ?_;(try simp only[Dat.ok,Dat.dec,Leaf.ok,Leaf.val,Z0,Z1,Z2,Z3,Z4,Z5,Z6,Z7,Z8,Z9,Z10,Z11,Z12,Z13,Z14,qA]at hr);cbv)
   all_goals ((try dsimp only at*);(try simp only[nc,Int.toNat_natCast,ne_eq,zz]at*);(try simp only[nc]at*))
   all_goals first
    |omega
    |(unfold InR;omega)
    |(refine fin _ _ _ ?_
      have h0:qFu s.size (-1) s.spans=false:=by
       rw[hr,qX Dat.d0 (by omega)]
       apply Bool.eq_false_iff.2
       rw[ne_eq,qBP]
       omega
      rw[qCd,if_pos hs,if_neg (by omega),h0];rfl)
    |(refine fin _ _ _ ?_
      rw[qCd,if_pos hs,if_neg (by omega),hr,drop_nil (by omega)];rfl)
    |(refine⟨⟨k+1,(s.spans.getD k Dat.d0).to,by omega, ?_⟩, ?_, ?_,rfl,by(try dsimp only);omega⟩
      ·rw[hr,qX Dat.d0 (by omega),qFu]
       simp[-List.getD_eq_getElem?_getD]
       intros;omega
      ·cbv
       repeat' first|(refine Stp.mk ?_;cbv)|(refine Gen.mk fun r hr=> ?_;(try simp only[Dat.ok,Dat.dec,Leaf.ok,Leaf.val,Z0,Z1,Z2,Z3,Z4,Z5,Z6,Z7,Z8,Z9,Z10,Z11,Z12,Z13,Z14,qA,qB]at hr);cbv)|exact trivial|rfl|refine Both.mk ?_ ?_|(refine Imp.mk fun h=> ?_;(try dsimp only at h);(try simp only[nc,Int.toNat_natCast,ne_eq,zz]at h);(try simp only[nc]at h))|refine Ob.mk ?_ ?_|refine Chk.mk (by kernel_rfl) ?_|refine Eq'.mk ?_|(refine AllN.mk fun i hi=> ?_;cbv)|(refine AllC.mk fun c hc hcm=> ?_;(try dsimp only at hc);cbv)|(refine AllS.mk fun r hr=> ?_;(try simp only[Dat.ok,Dat.dec,Leaf.ok,Leaf.val,Z0,Z1,Z2,Z3,Z4,Z5,Z6,Z7,Z8,Z9,Z10,Z11,Z12,Z13,Z14,qA]at hr);cbv)
      ·cbv
       repeat' first|(refine Stp.mk ?_;cbv)|(refine Gen.mk fun r hr=> ?_;(try simp only[Dat.ok,Dat.dec,Leaf.ok,Leaf.val,Z0,Z1,Z2,Z3,Z4,Z5,Z6,Z7,Z8,Z9,Z10,Z11,Z12,Z13,Z14,qA,qB]at hr);cbv)|exact trivial|rfl|refine Both.mk ?_ ?_|(refine Imp.mk fun h=> ?_;(try dsimp only at h);(try simp only[nc,Int.toNat_natCast,ne_eq,zz]at h);(try simp only[nc]at h))|refine Ob.mk ?_ ?_|refine Chk.mk (by kernel_rfl) ?_|refine Eq'.mk ?_|(refine AllN.mk fun i hi=> ?_;cbv)|(refine AllC.mk fun c hc hcm=> ?_;(try dsimp only at hc);cbv)|(refine AllS.mk fun r hr=> ?_;(try simp only[Dat.ok,Dat.dec,Leaf.ok,Leaf.val,Z0,Z1,Z2,Z3,Z4,Z5,Z6,Z7,Z8,Z9,Z10,Z11,Z12,Z13,Z14,qA]at hr);cbv))
theorem qQP:qBf Tryz.prog 28 (qM qKO):=qS fun A p r h hp0=>by
 unfold qKO at h
 split at h
 ·rename_i s
  cases h
  obtain⟨g0,hp⟩:=hp0
  exact⟨rfl,qO.pre (A':=[.agg (Dat.enc fun _=>(Dat.dec s:Set))]) (qQO (Dat.dec s) hp) (.mk (Dat.hle _ g0) (trivial))⟩
 ·cases h
structure UpX (s:Set) where
 k:Nat
 n:Int
 hk:k≤s.spans.length
 h0:0≤n
 hr:long s.spans=n+long (s.spans.drop k)
structure PaX (s:Set) (t c:Int) where
 k:Nat
 n:Int
 hk:k≤s.spans.length
 h0:c≤n
 hr:c+part t s.spans=n+part t (s.spans.drop k)
theorem qJI {s:Set}(h:Right s) {k:Nat}(hk:k<s.spans.length):0≤(s.spans.getD k Dat.d0).frm∧(s.spans.getD k Dat.d0).frm<(s.spans.getD k Dat.d0).to∧(s.spans.getD k Dat.d0).to≤s.size:=by
 have:=(qBI h.ok).2.2 (s.spans.getD k Dat.d0) (by rw[List.getD_eq_getElem?_getD,List.getElem?_eq_getElem hk];exact List.getElem_mem hk)
 omega
theorem qDs {s:Set}(h:Right s) (k:Nat):∀x∈s.spans.drop k,-1<x.frm∧x.frm<x.to∧x.to≤s.size:=fun x hx=>(qBI h.ok).2.2 x (List.mem_of_mem_drop hx)
theorem qEW {s:Set}(h:Right s):0≤long s.spans∧long s.spans≤s.size:=by
 obtain⟨h1,h2,h3⟩:=qBI h.ok
 refine⟨h1, ?_⟩
 by_cases h4:s.spans=[]
 ·rw[h4];simp[long];have:=h.s1;omega
 ·have:=h2 h4;omega
theorem qLV {s:Set}(h:Right s) {t:Int}(h0:0≤t):0≤t.tdiv s.size*long s.spans∧t.tdiv s.size*long s.spans≤t:=by
 obtain⟨h1,h2⟩:=qEW h
 have h3:=h.s1
 rw[Int.tdiv_eq_ediv_of_nonneg h0]
 have h4:0≤t/s.size:=Int.ediv_nonneg h0 (by omega)
 refine⟨Int.mul_nonneg h4 h1, ?_⟩
 have h5:t/s.size*long s.spans≤t/s.size*s.size:=Int.mul_le_mul_of_nonneg_left h2 h4
 have h6:=Int.ediv_mul_le t (show s.size≠0 by omega)
 omega
set_option maxRecDepth 100000 in
set_option maxHeartbeats 4000000 in
theorem qTy (s:Set) (t:Int) (hp:qSi s t):qO Tryz.prog 29 [.agg (Dat.enc fun _=>s),.i .i64 fun _=>t] [] (qAf (qLT fun _=>qCl s t) []):=by
 refine qAe qI zl qP qD (keep:=[0,1,2,4,5,7,8,10,12,13,14,15,37,38,39,40]) Tryz.func29 rfl ?_
 obtain⟨hs,ht0,ht1⟩:=hp
 have hs1:=hs.s1
 have hs2:=hs.s2
 have hs3:=hs.len
 have hlo:=qEW hs
 have hdl:=qLV hs ht0
 have hmd:0≤t.tmod s.size∧t.tmod s.size<s.size:=⟨Int.tmod_nonneg _ ht0,Int.tmod_lt_of_pos _ (by omega)⟩
 have hdv:0≤t.tdiv s.size∧t.tdiv s.size≤t:=by
  rw[Int.tdiv_eq_ediv_of_nonneg ht0]
  exact⟨Int.ediv_nonneg ht0 (by omega),Int.ediv_le_self _ ht0⟩
 have fin:∀e H kl,e=qCl s t→qAf (qLT fun _=>qCl s t) [] (.i .i64 fun _=>e) H kl:=by
  rintro e H kl rfl
  cbv
  repeat' first|(refine Stp.mk ?_;cbv)|(refine Gen.mk fun r hr=> ?_;(try simp only[Dat.ok,Dat.dec,Leaf.ok,Leaf.val,Z0,Z1,Z2,Z3,Z4,Z5,Z6,Z7,Z8,Z9,Z10,Z11,Z12,Z13,Z14,qA,qB]at hr);cbv)|exact trivial|rfl|refine Both.mk ?_ ?_|(refine Imp.mk fun h=> ?_;(try dsimp only at h);(try simp only[nc,Int.toNat_natCast,ne_eq,zz]at h);(try simp only[nc]at h))|refine Ob.mk ?_ ?_|refine Chk.mk (by kernel_rfl) ?_|refine Eq'.mk ?_|(refine AllN.mk fun i hi=> ?_;cbv)|(refine AllC.mk fun c hc hcm=> ?_;(try dsimp only at hc);cbv)|(refine AllS.mk fun r hr=> ?_;(try simp only[Dat.ok,Dat.dec,Leaf.ok,Leaf.val,Z0,Z1,Z2,Z3,Z4,Z5,Z6,Z7,Z8,Z9,Z10,Z11,Z12,Z13,Z14,qA]at hr);cbv)
 generalize qAf (qLT fun _=>qCl s t) []=K at fin
 cbv
 refine LoopVC.frame [5,7,14,15] (UpX s) (fun x=>[(14,.i .i64 fun _=>x.k),(5,.i .i64 fun _=>x.n)]) (fun _=>[]) [] (fun x=>s.spans.length-x.k) ⟨0,0,Nat.zero_le _,Int.le_refl _,by simp⟩ rfl (fun _=>rfl) ?_ ?_ fun⟨k,n,hk,h0,hr⟩=> ?_
 iterate 2
  ·cbv
   repeat' first|(refine Stp.mk ?_;cbv)|(refine Gen.mk fun r hr=> ?_;(try simp only[Dat.ok,Dat.dec,Leaf.ok,Leaf.val,Z0,Z1,Z2,Z3,Z4,Z5,Z6,Z7,Z8,Z9,Z10,Z11,Z12,Z13,Z14,qA,qB]at hr);cbv)|exact trivial|rfl|refine Both.mk ?_ ?_|(refine Imp.mk fun h=> ?_;(try dsimp only at h);(try simp only[nc,Int.toNat_natCast,ne_eq,zz]at h);(try simp only[nc]at h))|refine Ob.mk ?_ ?_|refine Chk.mk (by kernel_rfl) ?_|refine Eq'.mk ?_|(refine AllN.mk fun i hi=> ?_;cbv)|(refine AllC.mk fun c hc hcm=> ?_;(try dsimp only at hc);cbv)|(refine AllS.mk fun r hr=> ?_;(try simp only[Dat.ok,Dat.dec,Leaf.ok,Leaf.val,Z0,Z1,Z2,Z3,Z4,Z5,Z6,Z7,Z8,Z9,Z10,Z11,Z12,Z13,Z14,qA]at hr);cbv)
 have hdk:=qOV (qDs hs k)
 cbv
 repeat' first|(refine Stp.mk ?_;cbv)|(refine Gen.mk fun r hr=> ?_;(try simp only[Dat.ok,Dat.dec,Leaf.ok,Leaf.val,Z0,Z1,Z2,Z3,Z4,Z5,Z6,Z7,Z8,Z9,Z10,Z11,Z12,Z13,Z14,qA,qB]at hr);cbv)|exact trivial|rfl|refine Both.mk ?_ ?_|(refine Imp.mk fun h=> ?_;(try dsimp only at h);(try simp only[nc,Int.toNat_natCast,ne_eq,zz]at h);(try simp only[nc]at h))|refine Ob.mk ?_ ?_|refine Chk.mk (by kernel_rfl) ?_|refine Eq'.mk ?_|(refine AllN.mk fun i hi=> ?_;cbv)|(refine AllC.mk fun c hc hcm=> ?_;(try dsimp only at hc);cbv)|(refine AllS.mk fun r hr=> ?_;(try simp only[Dat.ok,Dat.dec,Leaf.ok,Leaf.val,Z0,Z1,Z2,Z3,Z4,Z5,Z6,Z7,Z8,Z9,Z10,Z11,Z12,Z13,Z14,qA]at hr);cbv)
 all_goals ((try dsimp only at*);(try simp only[nc,Int.toNat_natCast,ne_eq,zz]at*);(try simp only[nc]at*))
 all_goals try have hkl:k<s.spans.length:=by omega
 all_goals try have hg:=qJI hs hkl
 all_goals try rw[qX Dat.d0 hkl,long]at hr
 all_goals try have hdk2:=qOV (qDs hs (k+1))
 all_goals first
  |omega
  |(unfold InR;omega)
  |(refine⟨by omega, ?_⟩;unfold InR;omega)
  |(refine⟨⟨k+1,n+((s.spans.getD k Dat.d0).to-(s.spans.getD k Dat.d0).frm),by omega,by omega,by omega⟩, ?_, ?_,rfl,by(try dsimp only);omega⟩
    ·cbv
     repeat' first|(refine Stp.mk ?_;cbv)|(refine Gen.mk fun r hr=> ?_;(try simp only[Dat.ok,Dat.dec,Leaf.ok,Leaf.val,Z0,Z1,Z2,Z3,Z4,Z5,Z6,Z7,Z8,Z9,Z10,Z11,Z12,Z13,Z14,qA,qB]at hr);cbv)|exact trivial|rfl|refine Both.mk ?_ ?_|(refine Imp.mk fun h=> ?_;(try dsimp only at h);(try simp only[nc,Int.toNat_natCast,ne_eq,zz]at h);(try simp only[nc]at h))|refine Ob.mk ?_ ?_|refine Chk.mk (by kernel_rfl) ?_|refine Eq'.mk ?_|(refine AllN.mk fun i hi=> ?_;cbv)|(refine AllC.mk fun c hc hcm=> ?_;(try dsimp only at hc);cbv)|(refine AllS.mk fun r hr=> ?_;(try simp only[Dat.ok,Dat.dec,Leaf.ok,Leaf.val,Z0,Z1,Z2,Z3,Z4,Z5,Z6,Z7,Z8,Z9,Z10,Z11,Z12,Z13,Z14,qA]at hr);cbv)
    ·cbv
     repeat' first|(refine Stp.mk ?_;cbv)|(refine Gen.mk fun r hr=> ?_;(try simp only[Dat.ok,Dat.dec,Leaf.ok,Leaf.val,Z0,Z1,Z2,Z3,Z4,Z5,Z6,Z7,Z8,Z9,Z10,Z11,Z12,Z13,Z14,qA,qB]at hr);cbv)|exact trivial|rfl|refine Both.mk ?_ ?_|(refine Imp.mk fun h=> ?_;(try dsimp only at h);(try simp only[nc,Int.toNat_natCast,ne_eq,zz]at h);(try simp only[nc]at h))|refine Ob.mk ?_ ?_|refine Chk.mk (by kernel_rfl) ?_|refine Eq'.mk ?_|(refine AllN.mk fun i hi=> ?_;cbv)|(refine AllC.mk fun c hc hcm=> ?_;(try dsimp only at hc);cbv)|(refine AllS.mk fun r hr=> ?_;(try simp only[Dat.ok,Dat.dec,Leaf.ok,Leaf.val,Z0,Z1,Z2,Z3,Z4,Z5,Z6,Z7,Z8,Z9,Z10,Z11,Z12,Z13,Z14,qA]at hr);cbv))
  |skip
 all_goals have hn:n=long s.spans:=by rw[drop_nil (by omega)]at hr;simp only[long]at hr;omega
 all_goals subst hn
 ·unfold InR;omega
 refine LoopVC.frame [8,10,39,40] (PaX s (t.tmod s.size) (t.tdiv s.size*long s.spans)) (fun x=>[(39,.i .i64 fun _=>x.k),(8,.i .i64 fun _=>x.n)]) (fun _=>[]) [] (fun x=>s.spans.length-x.k) ⟨0,t.tdiv s.size*long s.spans,Nat.zero_le _,Int.le_refl _,by simp⟩ rfl (fun _=>rfl) ?_ ?_ fun⟨k2,n2,hk2,h02,hr2⟩=> ?_
 iterate 2
  ·cbv
   repeat' first|(refine Stp.mk ?_;cbv)|(refine Gen.mk fun r hr=> ?_;(try simp only[Dat.ok,Dat.dec,Leaf.ok,Leaf.val,Z0,Z1,Z2,Z3,Z4,Z5,Z6,Z7,Z8,Z9,Z10,Z11,Z12,Z13,Z14,qA,qB]at hr);cbv)|exact trivial|rfl|refine Both.mk ?_ ?_|(refine Imp.mk fun h=> ?_;(try dsimp only at h);(try simp only[nc,Int.toNat_natCast,ne_eq,zz]at h);(try simp only[nc]at h))|refine Ob.mk ?_ ?_|refine Chk.mk (by kernel_rfl) ?_|refine Eq'.mk ?_|(refine AllN.mk fun i hi=> ?_;cbv)|(refine AllC.mk fun c hc hcm=> ?_;(try dsimp only at hc);cbv)|(refine AllS.mk fun r hr=> ?_;(try simp only[Dat.ok,Dat.dec,Leaf.ok,Leaf.val,Z0,Z1,Z2,Z3,Z4,Z5,Z6,Z7,Z8,Z9,Z10,Z11,Z12,Z13,Z14,qA]at hr);cbv)
 have hpd:=qH5 (t:=t.tmod s.size) fun x hx=>(qDs hs k2 x hx).2.1
 have hpa:=qH5 (t:=t.tmod s.size) (l:=s.spans) fun x hx=>((qBI hs.ok).2.2 x hx).2.1
 cbv
 repeat' first|(refine Stp.mk ?_;cbv)|(refine Gen.mk fun r hr=> ?_;(try simp only[Dat.ok,Dat.dec,Leaf.ok,Leaf.val,Z0,Z1,Z2,Z3,Z4,Z5,Z6,Z7,Z8,Z9,Z10,Z11,Z12,Z13,Z14,qA,qB]at hr);cbv)|exact trivial|rfl|refine Both.mk ?_ ?_|(refine Imp.mk fun h=> ?_;(try dsimp only at h);(try simp only[nc,Int.toNat_natCast,ne_eq,zz]at h);(try simp only[nc]at h))|refine Ob.mk ?_ ?_|refine Chk.mk (by kernel_rfl) ?_|refine Eq'.mk ?_|(refine AllN.mk fun i hi=> ?_;cbv)|(refine AllC.mk fun c hc hcm=> ?_;(try dsimp only at hc);cbv)|(refine AllS.mk fun r hr=> ?_;(try simp only[Dat.ok,Dat.dec,Leaf.ok,Leaf.val,Z0,Z1,Z2,Z3,Z4,Z5,Z6,Z7,Z8,Z9,Z10,Z11,Z12,Z13,Z14,qA]at hr);cbv)
 all_goals ((try dsimp only at*);(try simp only[nc,Int.toNat_natCast,ne_eq,zz]at*);(try simp only[nc]at*))
 all_goals try have hkl:k2<s.spans.length:=by omega
 all_goals try have hg:=qJI hs hkl
 all_goals try rw[qX Dat.d0 hkl,part]at hr2
 all_goals try have hpd2:=qH5 (t:=t.tmod s.size) fun x hx=>(qDs hs (k2+1) x hx).2.1
 all_goals try have hm:=qWy (mn (s.spans.getD k2 Dat.d0).to (t.tmod s.size)-(s.spans.getD k2 Dat.d0).frm)
 all_goals first
  |omega
  |(unfold InR;omega)
  |(unfold InR;constructor<;>split<;>omega)
  |(change InR (n2+mx0 (mn (s.spans.getD k2 Dat.d0).to (t.tmod s.size)-(s.spans.getD k2 Dat.d0).frm));unfold InR;omega)
  |(refine⟨⟨k2+1,n2+mx0 (mn (s.spans.getD k2 Dat.d0).to (t.tmod s.size)-(s.spans.getD k2 Dat.d0).frm),by omega,by omega,by omega⟩, ?_, ?_,rfl,by(try dsimp only);omega⟩
    ·cbv
     repeat' first|(refine Stp.mk ?_;cbv)|(refine Gen.mk fun r hr=> ?_;(try simp only[Dat.ok,Dat.dec,Leaf.ok,Leaf.val,Z0,Z1,Z2,Z3,Z4,Z5,Z6,Z7,Z8,Z9,Z10,Z11,Z12,Z13,Z14,qA,qB]at hr);cbv)|exact trivial|rfl|refine Both.mk ?_ ?_|(refine Imp.mk fun h=> ?_;(try dsimp only at h);(try simp only[nc,Int.toNat_natCast,ne_eq,zz]at h);(try simp only[nc]at h))|refine Ob.mk ?_ ?_|refine Chk.mk (by kernel_rfl) ?_|refine Eq'.mk ?_|(refine AllN.mk fun i hi=> ?_;cbv)|(refine AllC.mk fun c hc hcm=> ?_;(try dsimp only at hc);cbv)|(refine AllS.mk fun r hr=> ?_;(try simp only[Dat.ok,Dat.dec,Leaf.ok,Leaf.val,Z0,Z1,Z2,Z3,Z4,Z5,Z6,Z7,Z8,Z9,Z10,Z11,Z12,Z13,Z14,qA]at hr);cbv)
    ·cbv
     repeat' first|(refine Stp.mk ?_;cbv)|(refine Gen.mk fun r hr=> ?_;(try simp only[Dat.ok,Dat.dec,Leaf.ok,Leaf.val,Z0,Z1,Z2,Z3,Z4,Z5,Z6,Z7,Z8,Z9,Z10,Z11,Z12,Z13,Z14,qA,qB]at hr);cbv)|exact trivial|rfl|refine Both.mk ?_ ?_|(refine Imp.mk fun h=> ?_;(try dsimp only at h);(try simp only[nc,Int.toNat_natCast,ne_eq,zz]at h);(try simp only[nc]at h))|refine Ob.mk ?_ ?_|refine Chk.mk (by kernel_rfl) ?_|refine Eq'.mk ?_|(refine AllN.mk fun i hi=> ?_;cbv)|(refine AllC.mk fun c hc hcm=> ?_;(try dsimp only at hc);cbv)|(refine AllS.mk fun r hr=> ?_;(try simp only[Dat.ok,Dat.dec,Leaf.ok,Leaf.val,Z0,Z1,Z2,Z3,Z4,Z5,Z6,Z7,Z8,Z9,Z10,Z11,Z12,Z13,Z14,qA]at hr);cbv))
  |(refine fin _ _ _ ?_
    rw[drop_nil (by omega),part]at hr2
    unfold qCl;omega)
  |fail
theorem qTz:qBf Tryz.prog 29 (qM qOY):=qS fun A p r h hp0=>by
 unfold qOY at h
 split at h
 ·rename_i s t
  cases h
  obtain⟨g0,hp⟩:=hp0
  exact⟨rfl,qO.pre (A':=[.agg (Dat.enc fun _=>(Dat.dec s:Set)),.i .i64 fun _=>t ()]) (qTy (Dat.dec s) (t ()) hp) (.mk (Dat.hle _ g0) (.mk (.mk (.mk rfl) (.mk rfl)) (trivial)))⟩
 ·cases h
theorem qO0 {s:Set}(h:Right s) {t:Int}(h0:0≤t):0≤qCl s t∧qCl s t≤t+s.size:=by
 have h1:=qLV h h0
 have h2:=qH5 (t:=t.tmod s.size) (l:=s.spans) fun x hx=>((qBI h.ok).2.2 x hx).2.1
 have h3:=qEW h
 unfold qCl;omega
noncomputable def qYs:FuncId→Con:=fun f=>match f with
 |28=>qH (qM qKO)
 |_=>fun _ _ _=>Bad 1001
theorem qTA:qY Tryz.prog qYs:=fun f A H K h=>by
 unfold qYs at h
 split at h
 ·exact⟨⟨Tryz.f28,Tryz.func28,by kernel_rfl,by kernel_rfl⟩,qE qQP h⟩
 ·cases h
def qYt:FuncId→Option Dt:=fun f=>match f with
 |29=>some (.c qOY)
 |_=>none
theorem qTB:qBk Tryz.prog qYt:=fun f d h=>by
 unfold qYt at h
 split at h
 ·cases h;exact⟨⟨Tryz.f29,Tryz.func29,by kernel_rfl,by kernel_rfl⟩,qTz⟩
 ·cases h
set_option maxRecDepth 100000 in
set_option maxHeartbeats 4000000 in
theorem qQQ (s:Set) (a:Int) (b:Int) (hp:qOZ s a b):qO Tryz.prog 9 [.agg (Dat.enc fun _=>s),.i .i64 fun _=>a,.i .i64 fun _=>b] [] (qAf (qH8 fun _=>qDz s a b) []):=by
 refine qAe qI zl qTA (qAb qI zl qTB mixed) (keep:=[0,1,2,3,6,7,8,12,24]) Tryz.func9 rfl ?_
 have hp':s.spans.length≤9223372036854775807:=hp
 have fin:∀a' e H kl,(a',e)=qDz s a b→qAf (qH8 fun _=>qDz s a b) [] (.tup [.i .i64 fun _=>a',.i .i64 fun _=>e]) H kl:=by
  intro a' e H kl h
  cbv
  repeat' first|(refine Stp.mk ?_;cbv)|(refine Gen.mk fun r hr=> ?_;(try simp only[Dat.ok,Dat.dec,Leaf.ok,Leaf.val,Z0,Z1,Z2,Z3,Z4,Z5,Z6,Z7,Z8,Z9,Z10,Z11,Z12,Z13,Z14,qA,qB]at hr);cbv)|exact trivial|rfl|refine Both.mk ?_ ?_|(refine Imp.mk fun h=> ?_;(try dsimp only at h);(try simp only[nc,Int.toNat_natCast,ne_eq,zz]at h);(try simp only[nc]at h))|refine Ob.mk ?_ ?_|refine Chk.mk (by kernel_rfl) ?_|refine Eq'.mk ?_|(refine AllN.mk fun i hi=> ?_;cbv)|(refine AllC.mk fun c hc hcm=> ?_;(try dsimp only at hc);cbv)|(refine AllS.mk fun r hr=> ?_;(try simp only[Dat.ok,Dat.dec,Leaf.ok,Leaf.val,Z0,Z1,Z2,Z3,Z4,Z5,Z6,Z7,Z8,Z9,Z10,Z11,Z12,Z13,Z14,qA]at hr);cbv)
  all_goals rw[←h]
 generalize qAf (qH8 fun _=>qDz s a b) []=K at fin
 cbv
 repeat' first|(refine Stp.mk ?_;cbv)|(refine Gen.mk fun r hr=> ?_;(try simp only[Dat.ok,Dat.dec,Leaf.ok,Leaf.val,Z0,Z1,Z2,Z3,Z4,Z5,Z6,Z7,Z8,Z9,Z10,Z11,Z12,Z13,Z14,qA,qB]at hr);cbv)|exact trivial|rfl|refine Both.mk ?_ ?_|(refine Imp.mk fun h=> ?_;(try dsimp only at h);(try simp only[nc,Int.toNat_natCast,ne_eq,zz]at h);(try simp only[nc]at h))|refine Ob.mk ?_ ?_|refine Chk.mk (by kernel_rfl) ?_|refine Eq'.mk ?_|(refine AllN.mk fun i hi=> ?_;cbv)|(refine AllC.mk fun c hc hcm=> ?_;(try dsimp only at hc);cbv)|(refine AllS.mk fun r hr=> ?_;(try simp only[Dat.ok,Dat.dec,Leaf.ok,Leaf.val,Z0,Z1,Z2,Z3,Z4,Z5,Z6,Z7,Z8,Z9,Z10,Z11,Z12,Z13,Z14,qA]at hr);cbv)
 all_goals ((try dsimp only at*);(try simp only[nc,Int.toNat_natCast,ne_eq,zz]at*);(try simp only[nc]at*))
 all_goals try simp only[Dat.ok,Dat.dec,Leaf.ok,Leaf.val,Z0,Z1,Z2,Z3,Z4,Z5,Z6,Z7,Z8,Z9,Z10,Z11,Z12,Z13,Z14,qA]at*
 all_goals try have hR:=qJH.1 (show qCd s=0 by assumption)
 all_goals try have hb:=qO0 hR (show 0≤b by omega)
 all_goals try have ha:=qO0 hR (show 0≤a by omega)
 all_goals try have hs2:=hR.s2
 all_goals first
  |exact⟨⟨trivial,rfl,fun i _=>Dat.hok _⟩,hp'⟩
  |exact⟨⟨trivial,rfl,fun i _=>Dat.hok _⟩,hR,by omega,by omega⟩
  |(unfold InR;omega)
  |(refine fin _ _ _ _ ?_
    unfold qDz
    first
     |(rw[if_neg (by assumption)];done)
     |(rw[if_pos (by assumption),if_pos (by omega)];done)
     |(rw[if_pos (by assumption),if_neg (by omega)];done))
  |fail
theorem qQR:qBf Tryz.prog 9 (qM qKP):=qS fun A p r h hp0=>by
 unfold qKP at h
 split at h
 ·rename_i s a b
  cases h
  obtain⟨g0,hp⟩:=hp0
  exact⟨rfl,qO.pre (A':=[.agg (Dat.enc fun _=>(Dat.dec s:Set)),.i .i64 fun _=>a (),.i .i64 fun _=>b ()]) (qQQ (Dat.dec s) (a ()) (b ()) hp) (.mk (Dat.hle _ g0) (.mk (.mk (.mk rfl) (.mk rfl)) (.mk (.mk (.mk rfl) (.mk rfl)) (trivial))))⟩
 ·cases h
end Go.Proofs.YtiaiifcgbjlfoaaGreatDoor
