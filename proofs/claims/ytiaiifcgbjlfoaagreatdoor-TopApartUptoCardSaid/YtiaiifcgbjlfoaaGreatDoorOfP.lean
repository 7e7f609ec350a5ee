/- The program's functions, walked: OfP. -/
import Derived.Test.YtiaiifcgbjlfoaaGreatDoorSortF
import Derived.Test.YtiaiifcgbjlfoaaGreatDoorSpanP
set_option linter.all false
namespace Go.Proofs.YtiaiifcgbjlfoaaGreatDoor
open Go Go.Abs
def inB (l:List Span) (t:Int):Bool:=l.any fun x=>decide (x.frm≤t)&&decide (t<x.to)
theorem qCI {x:Span}{l:List Span}{t:Int}:inB (x::l) t=(decide (x.frm≤t)&&decide (t<x.to)||inB l t):=by simp[inB]
theorem qDN {l:List Span}{t:Int}:inB l t=true↔∃x∈l,x.frm≤t∧t<x.to:=by simp[inB]
theorem qK3 {l m:List Span}{t:Int}:inB (l++m) t=(inB l t||inB m t):=by simp[inB]
theorem qMg {l m:List Span}(h:l.Perm m) (t:Int):inB l t=inB m t:=by
 rw[Bool.eq_iff_iff,qDN,qDN]
 exact⟨fun⟨x,hx,h1⟩=>⟨x,h.mem_iff.1 hx,h1⟩,fun⟨x,hx,h1⟩=>⟨x,h.mem_iff.2 hx,h1⟩⟩
theorem qGu {n:Int}:∀{l m:List Span}{q q':Int},qFu n q l=true→qFu n q' m=true→(∀t,inB l t=inB m t)→l=m
 |[],[],_,_,_,_,_=>rfl
 |[],y::m,_,_,_,h2,h=>by
  obtain⟨a1,a2,_,_⟩:=qBP.1 h2
  have:=h y.frm
  rw[qCI]at this
  simp[inB,a2]at this
 |x::l,[],_,_,h1,_,h=>by
  obtain⟨a1,a2,_,_⟩:=qBP.1 h1
  have:=h x.frm
  rw[qCI]at this
  simp[inB,a2]at this
 |x::l,y::m,_,_,h1,h2,h=>by
  obtain⟨a1,a2,a3,a4⟩:=qBP.1 h1
  obtain⟨b1,b2,b3,b4⟩:=qBP.1 h2
  have ml:∀t,inB l t=true→x.to<t:=by
   intro t ht
   obtain⟨z,hz,h3,h4⟩:=qDN.1 ht
   have:=(qBI a4).2.2 z hz
   omega
  have mm:∀t,inB m t=true→y.to<t:=by
   intro t ht
   obtain⟨z,hz,h3,h4⟩:=qDN.1 ht
   have:=(qBI b4).2.2 z hz
   omega
  have key:∀t,((x.frm≤t∧t<x.to)∨inB l t=true)↔((y.frm≤t∧t<y.to)∨inB m t=true):=fun t=>by
   have:=h t
   rw[qCI,qCI,Bool.eq_iff_iff]at this
   simpa using this
  have kx:∀t,x.frm≤t→t<x.to→(y.frm≤t∧t<y.to)∨y.to<t:=fun t h1 h2=>((key t).1 (.inl ⟨h1,h2⟩)).imp id (mm t)
  have ky:∀t,y.frm≤t→t<y.to→(x.frm≤t∧t<x.to)∨x.to<t:=fun t h1 h2=>((key t).2 (.inl ⟨h1,h2⟩)).imp id (ml t)
  have e1:x.frm=y.frm:=by
   have k1:=kx x.frm (Int.le_refl _) a2
   have k2:=ky y.frm (Int.le_refl _) b2
   omega
  have e2:x.to=y.to:=by
   rcases Int.lt_trichotomy x.to y.to with h3|h3|h3
   ·have:=ky x.to (by omega) h3;omega
   ·exact h3
   ·have:=kx y.to (by omega) h3;omega
  have e3:x=y:=by cases x;cases y;simp_all
  subst e3
  congr 1
  refine qGu a4 b4 fun t=> ?_
  rw[Bool.eq_iff_iff]
  constructor
  ·intro h3
   have:=ml t h3
   rcases(key t).1 (.inr h3)with h4|h4
   ·omega
   ·exact h4
  ·intro h3
   have:=mm t h3
   rcases(key t).2 (.inr h3)with h4|h4
   ·omega
   ·exact h4
def qE1 (out:List Span):Span:=out.getD (out.length-1) Dat.d0
def qPN (out:List Span) (x:Span):List Span:=
 if x.frm=x.to then out else if 0<out.length∧x.frm≤(qE1 out).to then out.set (out.length-1) ⟨(qE1 out).frm,if x.to>(qE1 out).to then x.to else(qE1 out).to⟩else out++[x]
def qGC (n:Int) (x:Span):Prop:=x.frm<0∨x.to<x.frm∨n<x.to
instance (n:Int) (x:Span):Decidable (qGC n x):=by unfold qGC;infer_instance
def ofR (n:Int):List Span→List Span→Option (List Span)
 |out,[]=>some out
 |out,x::r=>if qGC n x then none else ofR n (qPN out x) r
theorem qFB {n:Int}:∀{l:List Span}{q:Int}{z:Span},qFu n q (l++[z])=true↔qFu n q l=true∧(∀y∈l,y.to<z.frm)∧q<z.frm∧z.frm<z.to∧z.to≤n
 |[],q,z=>by simp[qFu,and_assoc]
 |x::l,q,z=>by
  rw[List.cons_append,qBP,qFB,qBP]
  constructor
  ·rintro⟨h1,h2,h3,h4,h5,h6,h7,h8⟩
   exact⟨⟨h1,h2,h3,h4⟩,fun y hy=>by rcases List.mem_cons.1 hy with rfl|hy;exact h6;exact h5 y hy,by omega,h7,h8⟩
  ·rintro⟨⟨h1,h2,h3,h4⟩,h5,h6,h7,h8⟩
   exact⟨h1,h2,h3,h4,fun y hy=>h5 y (List.mem_cons_of_mem _ hy),h5 x (List.mem_cons_self ..),h7,h8⟩
theorem qUl {n:Int}{out:List Span}{x:Span}(h:qFu n (-1) out=true) (hx:¬qGC n x) (hf:∀y∈out,y.frm≤x.frm):
  qFu n (-1) (qPN out x)=true∧(∀t,inB (qPN out x) t=(inB out t||inB [x] t))∧(∀y∈qPN out x,y.frm≤x.frm)∧(qPN out x).length≤out.length+1:=by
 unfold qGC at hx
 unfold qPN
 split
 ·rename_i e
  refine⟨h,fun t=> ?_,hf,Nat.le_succ _⟩
  have:inB [x] t=false:=by simp[inB];intro;omega
  rw[this,Bool.or_false]
 ·rename_i e
  have ap:(∀y∈out,y.to<x.frm)→qFu n (-1) (out++[x])=true∧(∀t,inB (out++[x]) t=(inB out t||inB [x] t))∧(∀y∈out++[x],y.frm≤x.frm)∧(out++[x]).length≤out.length+1:=fun hy=>
   ⟨qFB.2 ⟨h,hy,by omega,by omega,by omega⟩,fun t=>qK3,fun y hm=>by
     rcases List.mem_append.1 hm with hm|hm
     ·exact hf y hm
     ·simp at hm;subst hm;omega,by simp⟩
  rcases List.eq_nil_or_concat out with rfl|⟨init,z,hz0⟩
  ·rw[if_neg (by simp)]
   exact ap (by simp)
  ·rw[List.concat_eq_append]at hz0
   subst hz0
   have e1:qE1 (init++[z])=z:=by simp[qE1,List.getD_eq_getElem?_getD]
   rw[e1]
   obtain⟨p1,p2,p3,p4,p5⟩:=qFB.1 h
   have e2:(init++[z]).length-1=init.length:=by simp
   split
   ·rename_i hc
    have e3:∀v:Span,(init++[z]).set ((init++[z]).length-1) v=init++[v]:=fun v=>by rw[e2,List.set_append_right _ _ (Nat.le_refl _)];simp
    rw[e3]
    have hz:=hf z (by simp)
    refine⟨qFB.2 ⟨p1,p2,p3, ?_, ?_⟩,fun t=> ?_,fun y hm=> ?_,by simp⟩
    ·show z.frm<if x.to>z.to then x.to else z.to
     split<;>omega
    ·show(if x.to>z.to then x.to else z.to)≤n
     split<;>omega
    ·rw[qK3,qK3,Bool.or_assoc]
     congr 1
     rw[Bool.eq_iff_iff]
     simp only[inB,List.any_cons,List.any_nil,Bool.or_false,Bool.and_eq_true,Bool.or_eq_true,decide_eq_true_eq]
     split<;>omega
    ·rcases List.mem_append.1 hm with hm|hm
     ·exact hf y (by simp[hm])
     ·simp at hm;subst hm;exact hz
   ·rename_i hc
    refine ap fun y hy=> ?_
    have hzx:z.to<x.frm:=by simp at hc;omega
    rcases List.mem_append.1 hy with hy|hy
    ·have:=p2 y hy;omega
    ·simp at hy;subst hy;exact hzx
theorem qMh {n:Int}:∀{d out:List Span},qFu n (-1) out=true→(∀x∈d,¬qGC n x)→(∀x∈d,∀y∈out,y.frm≤x.frm)→d.Pairwise (fun x y=>x.frm≤y.frm)→
  ∃o,ofR n out d=some o∧qFu n (-1) o=true∧(∀t,inB o t=(inB out t||inB d t))∧o.length≤out.length+d.length
 |[],out,h,_,_,_=>⟨out,rfl,h,fun t=>by simp[inB],Nat.le_refl _⟩
 |x::d,out,h,hb,hf,hs=>by
  obtain⟨a1,a2,a3,a4⟩:=qUl h (hb x (by simp)) (hf x (by simp))
  rw[List.pairwise_cons]at hs
  obtain⟨o,h1,h2,h3,h4⟩:=qMh (d:=d) a1 (fun y hy=>hb y (by simp[hy])) (fun y hy z hz=>Int.le_trans (a3 z hz) (hs.1 y hy)) hs.2
  refine⟨o, ?_,h2,fun t=> ?_,by simp only[List.length_cons];omega⟩
  ·rw[ofR,if_neg (hb x (by simp))];exact h1
  ·rw[h3,a2,Bool.or_assoc]
   congr 1
   simp[inB]
theorem qIn {n:Int}:∀{d out:List Span},(∃x∈d,qGC n x)→ofR n out d=none
 |[],_,h=>by simp at h
 |x::d,out,h=>by
  rw[ofR]
  split
  ·rfl
  ·rename_i hx
   refine qIn ?_
   obtain⟨y,hy,h1⟩:=h
   rcases List.mem_cons.1 hy with rfl|hy
   ·exact absurd h1 hx
   ·exact⟨y,hy,h1⟩
def qPz (d:List Span):Prop:=d.Pairwise fun x y=>x.frm≤y.frm
theorem qUm {l d:List Span}(h:qOc qAT l d):qPz d:=by
 obtain⟨h1,h2⟩:=h
 unfold qPz
 rw[List.pairwise_iff_getElem]
 intro i j hi hj hij
 have:=h2 i j hij (by rw[←h1.length_eq];exact hj)
 rw[List.getD_eq_getElem?_getD,List.getD_eq_getElem?_getD,List.getElem?_eq_getElem hi,List.getElem?_eq_getElem hj]at this
 have h3:=qCG d[j] d[i]
 unfold ltOf at h3
 simp only[Option.getD_some]at this
 have h4:decide (d[j].frm<d[i].frm)=false:=by rw[←h3];exact decide_eq_false this
 have:=of_decide_eq_false h4
 omega
theorem qRr {n:Int}{d d':List Span}(hp:d.Perm d') (h:qPz d) (h':qPz d'):ofR n [] d=ofR n [] d':=by
 by_cases hb:∃x∈d,qGC n x
 ·rw[qIn hb]
  obtain⟨x,hx,hx'⟩:=hb
  rw[qIn ⟨x,hp.mem_iff.1 hx,hx'⟩]
 ·have hb1:∀x∈d,¬qGC n x:=fun x hx hx'=>hb ⟨x,hx,hx'⟩
  have hb2:∀x∈d',¬qGC n x:=fun x hx=>hb1 x (hp.mem_iff.2 hx)
  obtain⟨o,h1,h2,h3,_⟩:=qMh (out:=[]) rfl hb1 (by simp) h
  obtain⟨o',h1',h2',h3',_⟩:=qMh (out:=[]) rfl hb2 (by simp) h'
  rw[h1,h1']
  congr 1
  exact qGu h2 h2' fun t=>by rw[h3,h3',qMg hp t]
def isr:List Span→List Span
 |[]=>[]
 |x::r=>ins x (isr r)
where ins (x:Span):List Span→List Span
 |[]=>[x]
 |y::r=>if x.frm≤y.frm then x::y::r else y::ins x r
theorem qIo {x:Span}:∀{l:List Span},(isr.ins x l).Perm (x::l)
 |[]=>List.Perm.refl _
 |y::r=>by
  rw[isr.ins]
  split
  ·exact List.Perm.refl _
  ·exact((qIo (l:=r)).cons y).trans (List.Perm.swap x y r)
theorem qMi {x:Span}:∀{l:List Span},qPz l→qPz (isr.ins x l)
 |[],_=>by simp[isr.ins,qPz]
 |y::r,h=>by
  unfold qPz at h
  rw[List.pairwise_cons]at h
  rw[isr.ins]
  split
  ·rename_i hxy
   unfold qPz
   rw[List.pairwise_cons,List.pairwise_cons]
   exact⟨fun z hz=>by rcases List.mem_cons.1 hz with rfl|hz;exact hxy;exact Int.le_trans hxy (h.1 z hz),h⟩
  ·rename_i hxy
   unfold qPz
   rw[List.pairwise_cons]
   refine⟨fun z hz=> ?_,qMi h.2⟩
   rcases List.mem_cons.1 (qIo.mem_iff.1 hz)with rfl|hz
   ·omega
   ·exact h.1 z hz
theorem qDu:∀{l:List Span},(isr l).Perm l
 |[]=>List.Perm.refl _
 |x::r=>qIo.trans ((qDu (l:=r)).cons x)
theorem qIp:∀{l:List Span},qPz (isr l)
 |[]=>List.Pairwise.nil
 |x::r=>qMi qIp
def ofN (n:Int) (l:List Span):Option (List Span):=ofR n [] (isr l)
theorem qXk {n:Int}{l d:List Span}(h:qOc qAT l d):ofR n [] d=ofN n l:=qRr (h.1.trans qDu.symm) (qUm h) qIp
theorem qSv {n:Int}{l:List Span}(h:∀x∈l,¬qGC n x):∃o,ofN n l=some o∧qFu n (-1) o=true∧(∀t,inB o t=inB l t)∧o.length≤l.length:=by
 obtain⟨o,h1,h2,h3,h4⟩:=qMh (n:=n) (d:=isr l) (out:=[]) rfl (fun x hx=>h x (qDu.mem_iff.1 hx)) (by simp) qIp
 refine⟨o,h1,h2,fun t=>by rw[h3,qMg qDu];simp[inB],by rw[qDu.length_eq]at h4;simpa using h4⟩
theorem qUn {n:Int}{l:List Span}(h:∃x∈l,qGC n x):ofN n l=none:=by
 obtain⟨x,hx,h1⟩:=h
 exact qIn ⟨x,qDu.mem_iff.2 hx,h1⟩
def ofV (n:Int) (l:List Span):Set×Int:=
 if n<1∨1000000<n then(⟨0,[]⟩,1)else if 200<l.length then(⟨0,[]⟩,2)else match ofN n l with
  |some o=>(⟨n,o⟩,0)
  |none=>(⟨0,[]⟩,4)
theorem qIq {n:Int}{l o:List Span}(h1:¬(n<1∨1000000<n)) (h2:¬200<l.length) (h:ofN n l=some o):ofV n l=(⟨n,o⟩,0):=by rw[ofV,if_neg h1,if_neg h2,h]
theorem qMj {n:Int}{l:List Span}(h1:¬(n<1∨1000000<n)) (h2:¬200<l.length) (h:ofN n l=none):ofV n l=(⟨0,[]⟩,4):=by rw[ofV,if_neg h1,if_neg h2,h]
theorem qPA {n:Int}{l:List Span}(h1:n<1∨1000000<n):ofV n l=(⟨0,[]⟩,1):=by rw[ofV,if_pos h1]
theorem qJP {n:Int}{l:List Span}(h1:¬(n<1∨1000000<n)) (h2:200<l.length):ofV n l=(⟨0,[]⟩,2):=by rw[ofV,if_neg h1,if_pos h2]
end Go.Proofs.YtiaiifcgbjlfoaaGreatDoor
