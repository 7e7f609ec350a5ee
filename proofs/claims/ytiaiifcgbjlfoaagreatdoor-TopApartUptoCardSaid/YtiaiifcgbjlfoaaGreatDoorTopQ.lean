/- A part that nobody feeds, plain: what it does in a module it does alone. -/
import Derived.Test.YtiaiifcgbjlfoaaGreatDoorPartY
import Derived.Test.YtiaiifcgbjlfoaaGreatDoorTimesP
import Derived.Test.YtiaiifcgbjlfoaaGreatDoorFeedO
set_option linter.all false
namespace Go.Proofs.YtiaiifcgbjlfoaaGreatDoor
open Go Go.Abs
variable {q:Nat}
theorem qK4 {m:Module}{w:Wire}{n:Int}:(qBF m w n).wires=m.wires:=by unfold qBF;split<;>rfl
theorem qM9 {m:Module}{w:Wire}{n:Int}(h0:0≤w.to) (h:¬w.to=(q:Int)):(qBF m w n).parts.getD q Dat.d0=m.parts.getD q Dat.d0:=by
 unfold qBF
 split
 ·show(m.parts.set _ _).getD q Dat.d0=_
  rw[qMb,if_neg (by omega)]
 ·rfl
theorem qHk {j:Int}{x:Emit}:∀{l:List Wire}{m:Module},(∀w∈l,0≤w.to∧¬w.to=(q:Int))→(qA9 j x l m).parts.getD q Dat.d0=m.parts.getD q Dat.d0∧(qA9 j x l m).wires=m.wires
 |[],m,_=>⟨rfl,rfl⟩
 |w::r,m,h=>by
  rw[qA9]
  have hw:=h w List.mem_cons_self
  have ih:=fun m=>qHk (j:=j) (x:=x) (l:=r) (m:=m) fun v hv=>h v (List.mem_cons_of_mem _ hv)
  split
  ·exact⟨(ih _).1.trans (qM9 hw.1 hw.2),(ih _).2.trans qK4⟩
  ·exact ih m
theorem qHl {j:Int}:∀{out:List Emit}{m:Module},(∀w∈m.wires,0≤w.to∧¬w.to=(q:Int))→(qA6 j out m).parts.getD q Dat.d0=m.parts.getD q Dat.d0
 |[],m,_=>rfl
 |x::r,m,h=>by
  rw[qA6]
  obtain⟨h1,h2⟩:=qHk (j:=j) (x:=x) h
  exact(qHl (by rw[h2];exact h)).trans h1
theorem qPC {m:Module}(h:(qAM m).2=0) (hq:q<m.parts.length) (hw:∀w∈m.wires,0≤w.to∧¬w.to=(q:Int)):(qAM m).1.parts.getD q Dat.d0=if(qV m.table m.now).1=(q:Int)then qIf (m.parts.getD q Dat.d0)else m.parts.getD q Dat.d0:=by
 have g:=qPu h
 unfold qAM
 rw[if_neg g]
 split
 ·rename_i hb
  have hb2:=of_decide_eq_false hb
  rw[if_neg (by omega)]
 ·rename_i hb
  have hb:qBd m (qV m.table m.now).1=true:=by simpa using hb
  have hb2:=of_decide_eq_true hb
  generalize (qV m.table m.now).1=j at hb2
  have s:= @qHl q j (qEp (m.parts.getD j.toNat Dat.d0)) ⟨m.table,m.parts.set j.toNat (qIf (m.parts.getD j.toNat Dat.d0)),m.wires,m.now+1,m.lost⟩ hw
  dsimp only at s ⊢
  rw[s,qMb]
  by_cases e:j=(q:Int)
  ·rw[if_pos ⟨by omega,hq⟩,if_pos e,e,Int.toNat_natCast]
  ·rw[if_neg (by omega),if_neg e]
def itP:Nat→Part→Part
 |0,p=>p
 |k+1,p=>itP k (qIf p)
def qPO (t:Table) (q:Int):Int→Nat→Nat
 |_,0=>0
 |a,n+1=>(if(qV t a).1=q then 1 else 0)+qPO t q (a+1) n
theorem qSy {t:Table}{q:Int}:∀{n:Nat}{a:Int},qPO t q a n≤n
 |0,_=>Nat.le_refl _
 |n+1,a=>by
  rw[qPO]
  have:= @qSy t q n (a+1)
  split<;>omega
theorem qHm:∀{n:Nat}{m:Module},MOk m→(qAK n m).2=0→q<m.parts.length→(∀w∈m.wires,0≤w.to∧¬w.to=(q:Int))→(qAK n m).1.parts.getD q Dat.d0=itP (qPO m.table q m.now n) (m.parts.getD q Dat.d0)
 |0,m,_,_,_,_=>rfl
 |n+1,m,M,h,hq,hw=>by
  by_cases h1:(qAM m).2=0
  ·rw[qHi h1]at h ⊢
   obtain⟨a1,a2,a3,a4,a5,a6⟩:=qK1 M h1
   rw[qHm a1 h (by omega) (by rw[a4];exact hw),a2,a3,qPC h1 hq hw,qPO]
   split
   ·rw[Nat.add_comm,itP]
   ·rw[Nat.zero_add]
  ·rw[qJN h1]at h;exact absurd h h1
theorem qSz:∀{k:Nat}{p:Part},POk p→k≤5000→qFe p.code p.vm p.box k=0∧itP k p=⟨p.code,(qAH p.code p.vm p.box k).1,p.box.drop (qAH p.code p.vm p.box k).2.2.1.toNat⟩
 |0,p,P,_=>by
  have he:qFe p.code p.vm p.box ((0:Nat):Int)=0:=qC8.2 ⟨P.c,P.v,P.a,P.n,by decide,by decide,by have:=P.l;omega⟩
  refine⟨he, ?_⟩
  rw[qDL he]
  show p=⟨p.code,qM1 (qCe p.vm p.box),p.box.drop ((p.box.length:Int)-(p.box.length:Int)).toNat⟩
  rw[Int.sub_self];rfl
 |k+1,p,P,hk=>by
  have he:qFe p.code p.vm p.box ((k+1:Nat):Int)=0:=qC8.2 ⟨P.c,P.v,P.a,P.n,by omega,by omega,by have:=P.l;omega⟩
  obtain⟨i1,i2⟩:=qSz (k:=k) (qPt P) (by omega)
  obtain⟨⟨c1,c1'⟩,c2,c3,c4,c5,c6,c7⟩:=qTJ (qEo P) (b:=(k:Int)) (by omega) (by omega)
  refine⟨he, ?_⟩
  rw[itP,i2]
  show(⟨p.code,(qAH p.code (qAH p.code p.vm p.box 1).1 (p.box.drop (qAH p.code p.vm p.box 1).2.2.1.toNat) k).1,(p.box.drop (qAH p.code p.vm p.box 1).2.2.1.toNat).drop (qAH p.code (qAH p.code p.vm p.box 1).1 (p.box.drop (qAH p.code p.vm p.box 1).2.2.1.toNat) k).2.2.1.toNat⟩:Part)=_
  have hb:= @qEX p.code (qAH p.code p.vm p.box 1).1 (p.box.drop (qAH p.code p.vm p.box 1).2.2.1.toNat) k
  rw[show((k+1:Nat):Int)=1+(k:Int) by omega,c4,c6,List.drop_drop,Int.toNat_add c1 hb.1]
theorem qJR {t:Table}(h:RightT t) {q:Int}(hq:ownB q=true):∀{n:Nat}{a:Int},0≤a→a+n≤1099511627776→qCl (qAw t q).1 (a+n)=qCl (qAw t q).1 a+qPO t q a n
 |0,a,_,_=>by rw[qPO];simp
 |n+1,a,h0,h1=>by
  have ih:=qJR h hq (n:=n) (a:=a+1) (by omega) (by omega)
  have st:=qM8 h hq h0
  have ho:(qV t a).1=qXl t a:=by
   unfold qV qXl
   rw[if_pos (qBA.2 h),if_neg (by omega)]
  rw[qPO,ho,show a+((n+1:Nat):Int)=a+1+(n:Int) by omega,ih,st]
  split<;>omega
theorem qPD {m:Module}{i n:Int}(hi:qBd m i=true) (hR:(qEm m n).2=0) (hW:∀w∈m.wires,¬w.to=i):
  (qAw m.table i).2=0∧POk (m.parts.getD i.toNat Dat.d0)∧i.toNat<m.parts.length∧(qEm m n).1.parts.length=m.parts.length∧0≤n∧n≤5000∧0≤m.now∧(m.now≤549755813888→
  ∃c:Nat,c≤5000∧qDz (qAw m.table i).1 m.now (m.now+n)=((c:Int),0)∧(qAH (m.parts.getD i.toNat Dat.d0).code (m.parts.getD i.toNat Dat.d0).vm (m.parts.getD i.toNat Dat.d0).box c).2.2.2.2=0∧
  (qEm m n).1.parts.getD i.toNat Dat.d0=⟨(m.parts.getD i.toNat Dat.d0).code,(qAH (m.parts.getD i.toNat Dat.d0).code (m.parts.getD i.toNat Dat.d0).vm (m.parts.getD i.toNat Dat.d0).box c).1,(m.parts.getD i.toNat Dat.d0).box.drop (qAH (m.parts.getD i.toNat Dat.d0).code (m.parts.getD i.toNat Dat.d0).vm (m.parts.getD i.toNat Dat.d0).box c).2.2.1.toNat⟩):=by
 obtain⟨h1,h2,h3,e⟩:=qPw hR
 have M:=qAZ.1 h1
 have hb:=of_decide_eq_true hi
 have lp:=M.lp
 have hn:=M.now
 have hq:i.toNat<m.parts.length:=by omega
 have ei:(i.toNat:Int)=i:=by omega
 have hw:∀w∈m.wires,0≤w.to∧¬w.to=(i.toNat:Int):=fun w hw=>by
  have:=of_decide_eq_true (M.w w hw)
  exact⟨this.2.2.1,by rw[ei];exact hW w hw⟩
 have hT:=qBA.1 M.t
 have ho:ownB i=true:=decide_eq_true (by omega)
 have P:POk (m.parts.getD i.toNat Dat.d0):=qB5.1 (M.p _ (by rw[List.getD_eq_getElem?_getD,List.getElem?_eq_getElem hq];exact List.getElem_mem _))
 rw[e]at hR ⊢
 have K:=qMa M hR
 refine⟨(qFC hT ho).e,P,hq,K.2.2.2.2.1,h2,h3,hn.1,fun h9=> ?_⟩
 have cl:= @qSy m.table (i.toNat:Int) n.toNat m.now
 have tp:=qHm (q:=i.toNat) M hR hq hw
 obtain⟨r1,r2⟩:=qSz (k:=qPO m.table (i.toNat:Int) m.now n.toNat) P (by omega)
 refine⟨qPO m.table (i.toNat:Int) m.now n.toNat,by omega, ?_,by rw[qWN];exact r1,tp.trans r2⟩
 rw[qRq (qFC hT ho).rt hn.1 (by omega) (by omega)]
 have cc:=qJR hT ho (n:=n.toNat) (a:=m.now) hn.1 (by omega)
 rw[show m.now+(n.toNat:Int)=m.now+n by omega]at cc
 rw[cc,ei]
 congr 1;omega
theorem qNa {m:Module}{i:Int}(h:(qBM m i).2=0):qBd m i=true:=by
 unfold qBM at h
 by_cases h1:qAU m=0
 ·rw[if_neg (by omega)]at h
  cases hb:qBd m i with
  |true=>rfl
  |false=>rw[if_pos hb]at h;cases h
 ·rw[if_pos h1]at h;exact absurd h h1
theorem qPE {m:Module}{i:Int}(h:(qBM m i).2=0):(qBM m i).1.length=m.parts.length:=by
 unfold qBM at h ⊢
 by_cases h1:qAU m=0
 ·rw[if_neg (by omega)]at h ⊢
  cases hb:qBd m i with
  |true=>
   rw[if_neg (by decide)]
   show(qE0 _ _ _).length=_
   rw[qJO];unfold qFj;rw[List.length_set,List.length_replicate]
  |false=>rw[if_pos hb]at h;cases h
 ·rw[if_pos h1]at h;exact absurd h h1
end Go.Proofs.YtiaiifcgbjlfoaaGreatDoor
