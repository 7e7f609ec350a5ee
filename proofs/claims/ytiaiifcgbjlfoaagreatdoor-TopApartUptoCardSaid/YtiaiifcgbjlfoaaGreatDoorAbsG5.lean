/- What is to be proved of a piece of code is enough. -/
import Derived.Test.YtiaiifcgbjlfoaaGreatDoorAbsG2
import Derived.Deep.LoopGhost
import Derived.Laws.Cover3
import Derived.Test.YtiaiifcgbjlfoaaGreatDoorAbsG1
set_option linter.all false
namespace Go.Abs
open Go
variable [Kd]
def Enters (P:Program) (f:FuncId):Prop:=∃fn,P.funcs[f]? =some fn∧fn.body.isNone=false∧(fn.name== "runtime.NumGoroutine")=false
def qO (P:Program) (f:FuncId) (A:List AV) (H:Hp) (K:qBm):Prop:=
 ∀(w:World) (M:Nat→Prop) (β:Nat→Option Nat) (cp:Nat→Nat) (vs:Array Value),HeapRel w M β cp H→qAs w M β cp A vs.toList→
  Calls P f vs w fun e w'=>∃v r H' kl M' β' cp',e= .returned v∧K r H' kl∧HeapRel w' M' β' cp' H'∧AK w M β cp H w' M' β' cp' H' kl∧Rep w' M' β' cp' r v
def qY (P:Program) (con:FuncId→Con):Prop:=∀f A H K,con f A H K→Enters P f∧qO P f A H K
section
variable {P:Program}{E:Env}{con:FuncId→Con}{w:World}{M:Nat→Prop}{β:Nat→Option Nat}{cp:Nat→Nat}{h:Hp}{o:Oper}{a:Act}{s:Tm}
theorem qAv {f:FuncId}{args:Array Value}(he:Enters P f):(callFunc f args).run P w= .ok (.enter f args) w:=by
 obtain⟨fn,h1,h2,h3⟩:=he
 have h4:fn.name≠ "runtime.NumGoroutine" :=by simpa using h3
 have h5:fn.body≠none:=by intro e;rw[e]at h2;cases h2
 simp[callFunc,h1,h4,h5]
structure Zl (E:Env):Prop where
 zl:∀t e sz b z,E.ty t= .slice e sz b z→z.length=sz
theorem qNz {T:Ty}{t t':TypeId}{op:BinOp}{x y:Operand}{X Y:AV}{K:AV→Prop}(hT:qE4 P t T) (ho:o.op= .binOp op t x y t') (hx:Rep w M β cp X (a.eval x)) (hy:Rep w M β cp Y (a.eval y))
  (hv:qXT T op X Y K):∃b:Bool,(execOp a.eval o).run P w= .ok (.value (.bool b)) w∧K (.bc b):=by
 unfold qXT at hv
 split at hv
 ·rename_i e sz bs z
  have ey:a.eval y= .slice none 0 0:=qAJ hy
  have hu:=hT.1
  have run:∀(ad:Option Addr) (l c:Nat),a.eval x= .slice ad l c→(op= .eql→(execOp a.eval o).run P w= .ok (.value (.bool ad.isNone)) w)∧(op= .neq→(execOp a.eval o).run P w= .ok (.value (.bool (!ad.isNone))) w):=by
   intro ad l c ex
   refine⟨fun h=> ?_,fun h=> ?_⟩
   ·subst h
    have hg:(eqGuard .eql t x y (.slice ad l c) (.slice none 0 0)).run P w= .ok () w:=by simp[eqGuard]
    have hb:(binOp .eql t (.slice ad l c) (.slice none 0 0)).run P w= .ok (.bool ad.isNone) w:=by
     simp only[binOp]
     simp[run_equal_slice_nil w t e ad l c hu]
    simp[execOp,ho,ex,ey,hg,hb]
   ·subst h
    have hg:(eqGuard .neq t x y (.slice ad l c) (.slice none 0 0)).run P w= .ok () w:=by simp[eqGuard]
    simp[execOp,ho,ex,ey,hg,run_neq_slice_nil w t e ad l c hu]
  have shape:∀n:Th Nat,((∃sz f,X= .sl sz n f)∨∃b,X= .own b n)→∃ad l c,a.eval x= .slice ad l c∧(ad=none→n ()=0):=by
   rintro n (⟨sz,f,rfl⟩|⟨b,rfl⟩)
   ·cases hx with
    |c h=>
     revert h
     generalize a.eval x=v
     intro h
     cases h with
     |sl0 sz n f ad c hn hc=>exact⟨ad,0,c,rfl,fun _=>hn⟩
     |sl sz n f ad c u=>exact⟨some ad,_,c,rfl,fun h=>by cases h⟩
   ·revert hx
    generalize a.eval x=v
    intro hx
    cases hx with
    |c h=>cases h
    |own0 b n hn=>exact⟨none,0,0,rfl,fun _=>hn⟩
    |own b n g h hn=>exact⟨some _,_,_,rfl,fun h=>by cases h⟩
  have two:∀(n:Th Nat) (b1:Bool),((∃sz f,X= .sl sz n f)∨∃b,X= .own b n)→(op= .eql∧b1=true∨op= .neq∧b1=false)→Both (Imp (fun _=>n ()=0) (K (.bc b1))) (K (.bc (!b1)))→∃b:Bool,(execOp a.eval o).run P w= .ok (.value (.bool b)) w∧K (.bc b):=by
   intro n b1 hX hop hv
   obtain⟨ad,l,c,ex,hn⟩:=shape n hX
   cases hv with
   |mk h1 h2=>
    cases h1 with
    |mk h1=>
     obtain⟨r1,r2⟩:=run ad l c ex
     cases ad with
     |none=>
      have h3:=h1 (hn rfl)
      rcases hop with⟨rfl,rfl⟩|⟨rfl,rfl⟩
      ·exact⟨_,r1 rfl,h3⟩
      ·exact⟨_,r2 rfl,h3⟩
     |some ad=>
      rcases hop with⟨rfl,rfl⟩|⟨rfl,rfl⟩
      ·exact⟨_,r1 rfl,h2⟩
      ·exact⟨_,r2 rfl,h2⟩
  split at hv
  ·split at hv
   ·exact⟨_,(run none 0 0 (qAJ hx)).1 rfl,hv⟩
   ·exact two _ true (.inl ⟨_,_,rfl⟩) (.inl ⟨rfl,rfl⟩) hv
   ·exact two _ true (.inr ⟨_,rfl⟩) (.inl ⟨rfl,rfl⟩) hv
   ·cases hv
  ·split at hv
   ·exact⟨_,(run none 0 0 (qAJ hx)).2 rfl,hv⟩
   ·exact two _ false (.inl ⟨_,_,rfl⟩) (.inr ⟨rfl,rfl⟩) hv
   ·exact two _ false (.inr ⟨_,rfl⟩) (.inr ⟨rfl,rfl⟩) hv
   ·cases hv
  ·cases hv
 ·cases hv
theorem qNA {t:TypeId}{x y:Operand}{X Y:AV}{K:AV→Prop}{R:Option Arr}(hR:∀r,R=some r→qSE P t r) (ho:o.op= .index t x y) (hx:Rep w M β cp X (a.eval x)) (hy:Rep w M β cp Y (a.eval y))
  (hv:qNs R X Y K):∃v v',(execOp a.eval o).run P w= .ok (.value v') w∧K v∧Rep w M β cp v v':=by
 unfold qNs at hv
 split at hv
 ·rename_i r cs k i
  split at hv
  ·rename_i q
   have q:=qC.1 q
   rw[qK]at q
   cases hv with
   |mk hk hv=>
    obtain⟨e,hu,_,he,d,hd,hag⟩:=hR r rfl
    obtain⟨xs,ex,hL,hone⟩:=qBs hx
    have ey:=qAB hy
    have key:∀(n j:Nat) (l:List AV),l=cs.drop (j*r.sz)→j+n=r.n→(j:Int)≤i ()→qXA r.ag r.sz i K n j l→∃v,qXU r.ag r.sz (cs.drop ((i ()).toNat*r.sz))=some v∧K v:=by
     intro n
     induction n with
     |zero=>intro j l hl hj hji _;omega
     |succ n ih=>
      intro j l hl hj hji hv
      simp only[qXA]at hv
      split at hv
      ·rename_i v hvv
       cases hv with
       |mk h1 h2=>
        by_cases hij:i ()=(j:Int)
        ·cases h1 with
         |mk h1=>
          refine⟨v, ?_,(h1 hij).out⟩
          rw[hij,Int.toNat_natCast,←hl];exact hvv
        ·refine ih (j+1) _ ?_ (by omega) (by omega) h2
         rw[qAr,hl,List.drop_drop,Nat.succ_mul]
      ·cases hv
    obtain⟨v,hv1,hv2⟩:=key r.n 0 cs (by simp) (by omega) (by omega) hv
    have hlt:(i ()).toNat<r.n:=by omega
    have hle:(i ()).toNat*r.sz+r.sz≤r.n*r.sz:=by
     have:=Nat.mul_le_mul_right r.sz (show(i ()).toNat+1≤r.n by omega)
     rw[Nat.succ_mul]at this;exact this
    have hsz:xs.size=r.n*r.sz:=by have:=hL.1;simp at this;omega
    have hst:(execOp a.eval o).run P w=((part e xs ((i ()).toNat*r.sz)).run P w).andThen fun v w=> .ok (.value v) w:=by
     simp[execOp,ho,Instr.index,ey,ex,asIntOf,run_underlying hu,hk.1,hk.2,run_sizeOf he]
    unfold qXU at hv1
    split at hv1
    ·rename_i hagt
     rw[hagt]at hag
     obtain⟨fs,rfl⟩:=hag
     cases hv1
     refine⟨_,.agg (xs.extract ((i ()).toNat*r.sz) ((i ()).toNat*r.sz+r.sz)), ?_,hv2, ?_⟩
     ·rw[hst]
      simp[part,qCS hd,run_sizeOf he]
     ·rw[qDR]
      refine .agg _ _ (by simp;omega) (fun v hv=> ?_) fun j yy hj=> ?_
      ·refine hone v ?_
       simp only[Array.mem_extract_iff_getElem]at hv
       obtain⟨k,hk,rfl⟩:=hv
       simp
      ·rw[List.getElem?_take]at hj
       split at hj
       ·rename_i hjs
        rw[List.getElem?_drop]at hj
        have:=hL.2 _ yy hj
        rw[←qG]at this
        have e2:(xs.extract ((i ()).toNat*r.sz) ((i ()).toNat*r.sz+r.sz)).getD j undef=xs.getD ((i ()).toNat*r.sz+j) undef:=by
         rw[Array.getD_eq_getD_getElem?,Array.getD_eq_getD_getElem?,Array.getElem?_extract]
         rw[if_pos (by omega)]
        rw[e2];exact this
       ·cases hj
    ·rename_i hagf
     rw[hagf]at hag
     split at hv1
     ·rename_i yy l hl
      cases hv1
      have h0:cs[(i ()).toNat*r.sz]? =some v:=by
       have:(cs.drop ((i ()).toNat*r.sz))[0]? =some v:=by rw[hl];rfl
       rw[List.getElem?_drop]at this;simpa using this
      have hlt2:(i ()).toNat*r.sz<xs.size:=by
       have:=(List.getElem?_eq_some_iff.1 h0).1
       omega
      refine⟨_,xs.getD ((i ()).toNat*r.sz) undef, ?_,hv2, ?_⟩
      ·rw[hst]
       have hna:(isAgg e).run P w= .ok false w:=qBX hd (by rintro fs rfl;cases hag) (by rintro n e rfl;cases hag)
       simp[part,hna,hlt2]
      ·have:=hL.2 _ v h0
       rwa [←qG]at this
     ·cases hv1
  ·cases hv
 ·cases hv
theorem qHA {b g e sz:Nat}{k:Th Nat}{f:Th Nat→List AV}{cur cur':Array Value}(hh:HeapRel w M β cp h) (hb:h[b]? =some (.vec e sz k f)) (hg:β b=some g) (hM:M g) (hcell:w.heap[g]? =some (.cells cur e (0,0))) (hsz:cur'.size=cur.size)
  {N:Th Nat}{F:Th Nat→List AV}(ho:OneSp cur' e sz (N ()) (cp b)) (hNc:N ()≤cp b) (hcs:cur.size=cp b*sz) (hcm:cp b≤maxLen) (hl:∀i:Nat,i<N ()→(F fun _=>i).length=sz)
  (hF:∀(i j:Nat) (x:AV),i<N ()→(F fun _=>i)[j]? =some x→RepC w M x (cur'.getD (i*sz+j) undef)):After w M β cp h (w.setRow g cur') M β cp (h.set b (.vec e sz N F)):=by
 obtain⟨f1,f2,f3,f4,f5,f6⟩:=qAQ (w:=w) (cur':=cur') hcell
 have hk:∀k,k<w.heap.size→¬M k→(w.setRow g cur').heap[k]? =w.heap[k]? ∧¬M k:=fun k hk hk'=>⟨f6 k (by rintro rfl;exact hk' hM),hk'⟩
 exact qBW hh hb rfl rfl hg hM f1 f2 f3 f4 f6 (.inr ⟨g,cur',hg,hM,f5,by rw[hsz,hcs],ho,hNc,hcm,hl,fun i j x hi hj=>(hF i j x hi hj).keep hk⟩)
theorem qHB {zs:Array Value}(h1:∀v∈zs.toList,v.oneCell'=true) (h0:0<zs.size) (n:Nat):∀v∈(Builtin.zeroCells zs n).toList,v.oneCell'=true:=by
 intro v hv
 unfold Builtin.zeroCells at hv
 simp only[Array.toList_map,List.mem_map,Array.mem_toList_iff,Array.mem_range]at hv
 obtain⟨i,hi,rfl⟩:=hv
 have hm:i%zs.size<zs.size:=Nat.mod_lt _ h0
 rw[getElem!_pos zs _ hm]
 exact h1 _ (by simp)
theorem qKf {c:Call}(hE:EnvOk P E) (hZ:∀t e sz b z,E.ty t= .slice e sz b z→z.length=sz) (ho:o.op= .call c) (hc:c.callee= .builtin .clear) (hh:HeapRel w M β cp h) (hx:∀x,Rep w M β cp (ev s x) (a.eval x)) {K:qBm}(hv:qNt E c s h K):qIY P o a w M β cp h K:=by
 unfold qNt at hv
 split at hv
 ·rename_i t x hta ha
  have hargs:c.args= #[x]:=Array.toList_inj.1 ha
  have hta0:c.argTypes[0]? =some t:=by rw[←Array.getElem?_toList,hta];rfl
  have run:∀v w',(Builtin.clear_ c.argTypes o.type #[a.eval x]).run P w= .ok v w'→(execOp a.eval o).run P w= .ok (.value v) w':=by
   intro v w' hv
   simp[execOp,ho,resolve,hc,invoke,builtin,hargs,hv]
  split at hv
  ·rename_i et tz by' z hT
   have hTy:=hE.ty t
   rw[hT]at hTy
   obtain⟨hu,hsz,_,hi,_,_,hkd⟩:=hTy
   split at hv
   ·rename_i b sz p n hX
    have hxx:=hx x
    rw[hX]at hxx
    split at hv
    ·rename_i e sz' k f hb0
     split at hv
     ·rename_i q1 q2
      rw[Bool.and_eq_true]at q2
      have q3:=(qC.1 q2.2).symm
      have q1:=qC.1 q1
      have q2:=qC.1 q2.1
      subst q1 q2 q3
      cases hv with
      |mk hpn hK=>
      have hpn:p ()+n ()=k ():=hpn
      have hb:=qJ hb0 rfl
      have hset:∀g cur,β b=some g→M g→w.heap[g]? =some (.cells cur e (0,0))→cur.size=cp b*sz→OneSp cur e sz (k ()) (cp b)→k ()≤cp b→cp b≤maxLen→(∀i:Nat,i<k ()→(f fun _=>i).length=sz)→
        (∀(i j:Nat) (x:AV),i<k ()→(f fun _=>i)[j]? =some x→RepC w M x (cur.getD (i*sz+j) undef))→∀cur':Array Value,cur'.size=cur.size→(∀j,j<p ()*sz→cur'.getD j undef=cur.getD j undef)→(∀i j,p ()≤i→i<cp b→j<sz→KdV e j (cur'.getD (i*sz+j) undef))→
        After w M β cp h (w.setRow g cur') M β cp (h.set b (.vec e sz p f)):=by
       intro g cur e1 e2 e3 e4 e5 e6 e7 e8 e9 cur' hs' heq hzz
       have hle:p ()*sz≤k ()*sz:=Nat.mul_le_mul_right _ (by omega)
       refine qHA hh hb e1 e2 e3 hs' ⟨fun j hj=>by rw[heq j hj];exact e5.one j (by omega),hzz⟩ (by omega) e4 e7 (fun i hi=>e8 i (by omega)) fun i j x hi hj=> ?_
       have hjs:j<sz:=by rw[←e8 i (by omega)];exact(List.getElem?_eq_some_iff.1 hj).1
       have hlt:i*sz+j<p ()*sz:=by
        have:=Nat.mul_le_mul_right sz (show i+1≤p () by omega)
        rw[Nat.succ_mul]at this
        omega
       rw[heq _ hlt]
       exact e9 i j x (by omega) hj
      have none0:n ()=0→(Builtin.clear_ c.argTypes o.type #[a.eval x]).run P w= .ok (.tuple #[]) w→qIY P o a w M β cp h K:=by
       intro h0 hr
       rcases hh.obj b _ hb with⟨e1,e2⟩|⟨g,cur,e1,e2,e3,e4,e5,e6,e7,e8,e9⟩
       ·obtain⟨s1,s2⟩:=hh.set0 (o':= .vec e sz p f) e1 (.inl ⟨e1,by omega⟩)
        exact⟨.tuple #[],w,M,β,cp,.tup [],h.set b (.vec e sz p f),[],run _ _ hr,hK,s1,⟨fun _ _ hM=>⟨rfl,hM⟩,fun _ _ _=>⟨rfl,rfl⟩,Ext.refl _ _ _,fun g' hg'=> .inl (s2 g' hg')⟩,.c (.tup [] #[] rfl fun j x hj=>by simp at hj)⟩
       ·have h2:=hset g cur e1 e2 e3 e4 e5 e6 e7 e8 e9 cur rfl (fun _ _=>rfl) fun i j q1 q2 q3=>e5.sp i j (by omega) q2 q3
        rw[setRow_self w g cur e (0,0) e3]at h2
        exact⟨.tuple #[],w,M,β,cp,.tup [],_,[],run _ _ hr,hK,h2.heap,AK.of_after h2,.c (.tup [] #[] rfl fun j x hj=>by simp at hj)⟩
      rcases qB8 hxx with⟨h0,ao,c',hc',he⟩|⟨g,hg,hn,he⟩
      ·exact none0 h0 (by cases ao<;>simp[Builtin.clear_,hta0,run_underlying hu,he])
      ·by_cases h0:n ()=0
       ·exact none0 h0 (by simp[Builtin.clear_,hta0,run_underlying hu,he,h0])
       ·rcases hh.obj b _ hb with⟨e1,_⟩|⟨g',cur,e1,e2,e3,e4,e5,e6,e7,e8,e9⟩
        ·rw[hg]at e1;cases e1
        ·rw[hg]at e1;cases e1
         obtain⟨zv,z1,z2,z3,z4⟩:∃zv,(zeroValue e).run P w= .ok zv w∧zv.cells.toList.map qDP=z∧(∀v∈zv.cells.toList,v.oneCell'=true)∧Kd.z e=zv.cells.toList:=by
          obtain⟨i,h1,h2,zv,h3,h4,h5⟩:=hi
          exact⟨zv,by simp[zeroValue,typeInfo,h1,h3],h4,fun v hv=>by have:=List.all_eq_true.1 h5 v hv;simpa using this,hkd i zv h1 h3⟩
         have hzs:zv.cells.size=sz:=by rw[←hZ _ _ _ _ _ hT,←z2];simp
         have hlen:(Builtin.zeroCells zv.cells (n ())).toList.length=n ()*sz:=by simp[Builtin.zeroCells,hzs]
         have hfit:p ()*sz+0+(Builtin.zeroCells zv.cells (n ())).toList.length≤cur.size:=by
          rw[hlen,e4,Nat.add_zero,←Nat.add_mul]
          exact Nat.mul_le_mul_right _ hn
         have hst:=run_storeCells_at P g (p ()*sz) e (Builtin.zeroCells zv.cells (n ())).toList 0 cur w e3 hfit (qHB z3 (by omega) _)
         have h2:=hset g cur hg e2 e3 e4 e5 e6 e7 e8 e9 (cur.toList.take (p ()*sz+0)++(Builtin.zeroCells zv.cells (n ())).toList++cur.toList.drop (p ()*sz+0+(Builtin.zeroCells zv.cells (n ())).toList.length)).toArray (by
           have hcl:cur.toList.length=cur.size:=Array.length_toList
           simp only[List.size_toArray,List.length_append,List.length_take,List.length_drop]
           omega) (fun j hj=>by
          have hcl:cur.toList.length=cur.size:=Array.length_toList
          rw[qBh,List.getD_eq_getElem?_getD,List.append_assoc,List.getElem?_append_left (by rw[List.length_take];omega),List.getElem?_take,if_pos (by omega),qG,List.getD_eq_getElem?_getD]) fun i j q1 q2 q3=>by
          have hcl:cur.toList.length=cur.size:=Array.length_toList
          have h3:=qAx cur.toList (Builtin.zeroCells zv.cells (n ())).toList (p ()*sz) (i*sz+j) (by omega)
          rw[hlen]at h3
          rw[Nat.add_zero,hlen,qBh,h3]
          have hle1:p ()*sz≤i*sz:=Nat.mul_le_mul_right _ q1
          split
          ·rename_i hc2
           have hzc:=qDy zv.cells (n ()) (i*sz+j-p ()*sz) (by rw[hzs];omega)
           have hk2:i*sz+j-p ()*sz=(i-p ())*sz+j:=by rw[Nat.sub_mul];omega
           intro _
           rw[←qG,hzc,hzs,hk2,Nat.mul_comm (i-p ()),Nat.mul_add_mod,Nat.mod_eq_of_lt q3,z4,Array.getD_eq_getD_getElem?,List.getD_eq_getElem?_getD,Array.getElem?_toList]
          ·rename_i hc2
           have hki:k ()≤i:=by
            apply Nat.not_lt.1
            intro hlt
            have:=Nat.mul_le_mul_right sz (show i+1≤k () by omega)
            rw[Nat.succ_mul,←hpn,Nat.add_mul]at this
            omega
           rw[←qG]
           exact e5.sp i j hki q2 q3
         refine⟨.tuple #[],_,M,β,cp,.tup [],_,[],run _ _ ?_,hK,h2.heap,AK.of_after h2,.c (.tup [] #[] rfl fun j x hj=>by simp at hj)⟩
         obtain⟨n',hn'⟩:∃n',n ()=n'+1:=⟨n ()-1,by omega⟩
         rw[hn']at he hst ⊢
         simp[Builtin.clear_,hta0,run_underlying hu,he,z1,hst]
     ·cases hv
    ·cases hv
   ·rename_i hX
    have hxx:=hx x
    rw[hX]at hxx
    exact⟨.tuple #[],w,M,β,cp,.tup [],h,[],run _ _ (by simp[Builtin.clear_,hta0,run_underlying hu,qAJ hxx]),hv,hh,AK.refl,.c (.tup [] #[] rfl fun j x hj=>by simp at hj)⟩
   ·cases hv
  ·cases hv
 ·cases hv
theorem qKg (f:FuncId):RepC w M (.fn f []) (.func (.func f) #[] #[]):=by
 have h:RepC w M (.fn f []) (fnV f #[]):= .fn f [] #[] rfl (fun j x hj=>by simp at hj)
 rw[qJW]at h
 exact h
theorem qNB (v:Value):RepC w M (qDP v) v:=by
 cases v with
 |int k n=>exact .i _ _
 |bool b=>exact .bc _
 |string s=>exact .s _
 |slice a n c=>
  simp only[qDP]
  split
  ·exact .nil
  ·exact .any _
 |func f x y=>
  simp only[qDP]
  split
  ·rename_i h1 h2
   have e1:x= #[]:=by simpa using h1
   have e2:y= #[]:=by simpa using h2
   subst e1 e2
   exact qKg _
  ·exact .any _
 |pointer a=>
  cases a with
  |none=>exact .con (fun _=> .pointer none) rfl
  |some a=>exact .any _
 |_=>exact .any _
theorem qNC {c:Call}(hE:EnvOk P E) (hZ:∀t e sz b z,E.ty t= .slice e sz b z→z.length=sz) (ho:o.op= .call c) (hc:c.callee= .builtin .cap) (hh:HeapRel w M β cp h) (hx:∀x,Rep w M β cp (ev s x) (a.eval x)) {K:qBm}(hv:qXV E c s h K):qIY P o a w M β cp h K:=by
 unfold qXV at hv
 split at hv
 ·rename_i t x hta ha
  have hargs:c.args= #[x]:=Array.toList_inj.1 ha
  have hta0:c.argTypes[0]? =some t:=by rw[←Array.getElem?_toList,hta];rfl
  have run:∀v w',(Builtin.cap_ c.argTypes o.type #[a.eval x]).run P w= .ok v w'→(execOp a.eval o).run P w= .ok (.value v) w':=by
   intro v w' hv
   simp[execOp,ho,resolve,hc,invoke,builtin,hargs,hv]
  split at hv
  ·rename_i et tz by' z hT
   have hTy:=hE.ty t
   rw[hT]at hTy
   obtain⟨hu,hsz,_,hi,_,_,hkd⟩:=hTy
   have rcap:∀ao m c',a.eval x= .slice ao m c'→(Builtin.cap_ c.argTypes o.type #[a.eval x]).run P w= .ok (.int .i64 (c':Nat)) w:=by
    intro ao m c' he
    simp[Builtin.cap_,hta0,run_underlying hu,he,goInt]
   split at hv
   ·rename_i b n hX
    have hxx:=hx x
    rw[hX]at hxx
    split at hv
    ·rename_i e sz k f hb0
     split at hv
     ·rename_i q2
      rw[Bool.and_eq_true,Bool.and_eq_true]at q2
      have q3:=(qC.1 q2.1.2).symm
      have q4:=q2.2
      have q2:=qC.1 q2.1.1
      subst q2 q3
      have hon:Kd.on e=true:=(hE.fr e).trans q4
      cases hv with
      |mk hkn hK=>
      cases hK with
      |mk hK=>
      have hkn:k ()≤n ():=hkn
      have hb:=qJ hb0 rfl
      obtain⟨zv,z1,z2,z3,z4⟩:∃zv,(zeroValue e).run P w= .ok zv w∧zv.cells.toList.map qDP=z∧(∀v∈zv.cells.toList,v.oneCell'=true)∧Kd.z e=zv.cells.toList:=by
       obtain⟨i,h1,h2,zv,h3,h4,h5⟩:=hi
       exact⟨zv,by simp[zeroValue,typeInfo,h1,h3],h4,fun v hv=>by have:=List.all_eq_true.1 h5 v hv;simpa using this,hkd i zv h1 h3⟩
      have hzl:(Kd.z e).length=sz:=by rw[z4,←hZ _ _ _ _ _ hT,←z2];simp
      have hzr:∀j:Nat,RepC w M (z.getD j .any) ((Kd.z e).getD j undef):=by
       intro j
       rw[z4,←z2,List.getD_eq_getElem?_getD,List.getElem?_map,List.getD_eq_getElem?_getD]
       cases zv.cells.toList[j]? with
       |none=>exact .any _
       |some v=>exact qNB v
      have hzo:∀j:Nat,j<sz→((Kd.z e).getD j undef).oneCell'=true:=by
       intro j hj
       rw[List.getD_eq_getElem?_getD,List.getElem?_eq_getElem (by omega),Option.getD_some]
       exact z3 _ (by rw[←z4];exact List.getElem_mem _)
      have hset:∀(c:Nat) g cur,k ()≤c→c≤cp b→β b=some g→M g→w.heap[g]? =some (.cells cur e (0,0))→cur.size=cp b*sz→OneSp cur e sz (k ()) (cp b)→cp b≤maxLen→(∀i:Nat,i<k ()→(f fun _=>i).length=sz)→
        (∀(i j:Nat) (x:AV),i<k ()→(f fun _=>i)[j]? =some x→RepC w M x (cur.getD (i*sz+j) undef))→
        After w M β cp h w M β cp (h.set b (.vec e sz (fun _=>c) fun j=>qBB sz (fun _=>decide (j ()<k ())) (f j) z)):=by
       intro c g cur hkc hcc e1 e2 e3 e4 e5 e7 e8 e9
       have hsp:∀i j,k ()≤i→i<c→j<sz→cur.getD (i*sz+j) undef=(Kd.z e).getD j undef:=fun i j h1 h2 h3=>e5.sp i j h1 (by omega) h3 hon
       have h2:=qHA (cur':=cur) (N:=fun _=>c) (F:=fun j=>qBB sz (fun _=>decide (j ()<k ())) (f j) z) hh hb e1 e2 e3 rfl ⟨fun q hq=> ?_,fun i j h1 h2 h3=>e5.sp i j (Nat.le_trans hkc h1) h2 h3⟩ hcc e4 e7 (fun i _=>qCa _ _ _ _) fun i j y hi hj=> ?_
       ·rw[setRow_self w g cur e (0,0) e3]at h2;exact h2
       ·by_cases hq2:q<k ()*sz
        ·exact e5.one q hq2
        ·have hs0:0<sz:=by
          rcases Nat.eq_zero_or_pos sz with h|h
          ·rw[h]at hq;simp at hq
          ·exact h
         have e1:q/sz*sz+q%sz=q:=by rw[Nat.mul_comm];exact Nat.div_add_mod q _
         have hq:q<c*sz:=hq
         have h1:q/sz<c:=Nat.div_lt_of_lt_mul (by rw[Nat.mul_comm];exact hq)
         have h2:=Nat.mod_lt q hs0
         have h3:k ()≤q/sz:=(Nat.le_div_iff_mul_le hs0).2 (by omega)
         rw[←e1,hsp _ _ h3 h1 h2]
         exact hzo _ h2
       ·obtain⟨hjs,rfl⟩:=qBz _ _ _ _ _ _ hj
        refine qBy _ _ (fun hc=> ?_) (fun hc=> ?_)
        ·have hi2:i<k ():=by simpa using hc
         rw[List.getD_eq_getElem?_getD]
         cases hf:(f fun _=>i)[j]? with
         |none=>exact .any _
         |some y=>exact e9 i j y hi2 hf
        ·have hi2:¬i<k ():=by simpa using hc
         rw[hsp i j (by omega) hi hjs]
         exact hzr j
      have fin:∀(c:Nat) ao m,k ()≤c→c≤maxLen→a.eval x= .slice ao m c→After w M β cp h w M β cp (h.set b (.vec e sz (fun _=>c) fun j=>qBB sz (fun _=>decide (j ()<k ())) (f j) z))→qIY P o a w M β cp h K:=fun c ao m h1 h2 he h3=>
       ⟨.int .i64 (c:Nat),w,M,β,cp,.i .i64 fun _=>(c:Nat),_,[],run _ _ (rcap _ _ _ he),hK c h1 h2,h3.heap,AK.of_after h3,.c (.i .i64 fun _=>(c:Nat))⟩
      obtain⟨g,hg,hn,he⟩:=qBK hxx
      ·rcases hh.obj b _ hb with⟨e1,_⟩|⟨g',cur,e1,e2,e3,e4,e5,e6,e7,e8,e9⟩
       ·rw[hg]at e1;cases e1
       ·rw[hg]at e1;cases e1
        exact fin (cp b) _ _ (by omega) e7 he (hset _ g cur (by omega) (Nat.le_refl _) hg e2 e3 e4 e5 e7 e8 e9)
     ·cases hv
    ·cases hv
   ·rename_i hX
    have hxx:=hx x
    rw[hX]at hxx
    exact⟨.int .i64 (0:Nat),w,M,β,cp,.i .i64 fun _=>0,h,[],run _ _ (rcap _ _ _ (qAJ hxx)),hv,hh,AK.refl,.c (.i .i64 fun _=>((0:Nat):Int))⟩
   ·cases hv
  ·cases hv
 ·cases hv
mutual
theorem qI3:∀(v:AV) (K:AV→Prop) (x:Value),spl v K→Rep w M β cp v x→∃u,K u∧Rep w M β cp u x
 | .own b n,K,x,h,hr=>by
   simp only[spl]at h
   cases h with
   |mk h1 h2=>
    rcases qW hr with⟨h0,rfl⟩|⟨g,hg,hn,rfl⟩
    ·cases h1 with|mk h1=>exact⟨.nil,(h1 h0).out,.c .nil⟩
    ·exact⟨.nn b n,h2.out,.nn b n g hg hn⟩
 | .agg l,K,x,h,hr=>by
   simp only[spl]at h
   obtain⟨cs,rfl,hL,ho⟩:=qBs hr
   obtain⟨m,h1,h2⟩:=qGO l _ cs.toList h hL
   exact⟨.agg m,h1,.agg m cs (by have:=h2.1;simpa using this) (fun v hv=>ho v (by simpa using hv)) fun j y hj=>by
    have:=h2.2 j y hj
    simpa[Array.getD_eq_getD_getElem?,List.getD_eq_getElem?_getD]using this⟩
 | .any,K,x,h,hr=>⟨_,h,hr⟩
 | .bc _,K,x,h,hr=>⟨_,h,hr⟩
 | .b _,K,x,h,hr=>⟨_,h,hr⟩
 | .i _ _,K,x,h,hr=>⟨_,h,hr⟩
 | .s _,K,x,h,hr=>⟨_,h,hr⟩
 | .nil,K,x,h,hr=>⟨_,h,hr⟩
 | .ite _ _ _,K,x,h,hr=>⟨_,h,hr⟩
 | .con _,K,x,h,hr=>⟨_,h,hr⟩
 | .tup _,K,x,h,hr=>⟨_,h,hr⟩
 | .ptr _ _,K,x,h,hr=>⟨_,h,hr⟩
 | .mr _,K,x,h,hr=>⟨_,h,hr⟩
 | .ept _ _ _ _,K,x,h,hr=>⟨_,h,hr⟩
 | .vw _ _ _ _,K,x,h,hr=>⟨_,h,hr⟩
 | .nn _ _,K,x,h,hr=>⟨_,h,hr⟩
 | .sl _ _ _,K,x,h,hr=>⟨_,h,hr⟩
 | .rp _,K,x,h,hr=>⟨_,h,hr⟩
 | .fn _ _,K,x,h,hr=>⟨_,h,hr⟩
 | .fm _ _,K,x,h,hr=>⟨_,h,hr⟩
 | .ifc _ _,K,x,h,hr=>⟨_,h,hr⟩
theorem qGO:∀(l:List AV) (K:List AV→Prop) (xs:List Value),qXB l K→qAs w M β cp l xs→∃m,K m∧qAs w M β cp m xs
 |[],K,xs,h,hr=>⟨[],h,hr⟩
 |v::r,K,xs,h,hr=>by
  simp only[qXB]at h
  cases xs with
  |nil=>have:=hr.1;simp at this
  |cons x xs=>
   obtain⟨u,h1,h2⟩:=qI3 v _ x h (by have:=hr.2 0 v rfl;simpa using this)
   obtain⟨m,h3,h4⟩:=qGO r _ xs h1 ⟨by have:=hr.1;simpa using this,fun j y hj=>by have:=hr.2 (j+1) y (by simpa using hj);simpa using this⟩
   refine⟨u::m,h3,by have:=h4.1;simpa using this,fun j y hj=> ?_⟩
   cases j with
   |zero=>simp at hj;subst hj;simpa using h2
   |succ j=>simpa using h4.2 j y (by simpa using hj)
end
theorem qND {sz b:Nat}{p n:Th Nat}{X:AV}{v:Value}(hd:qXC sz X=some (b,p,n)) (hr:Rep w M β cp X v):
  (n ()=0∧∃a c,v= .slice a 0 c)∨∃g c,β b=some g∧p ()+n ()≤cp b∧v= .slice (some ⟨g,p ()*sz,none⟩) (n ()) c:=by
 unfold qXC at hd
 split at hd
 ·rename_i b' n'
  simp only[Option.some.injEq,Prod.mk.injEq]at hd
  obtain⟨rfl,rfl,rfl⟩:=hd
  rcases qW hr with⟨h0,rfl⟩|⟨g,hg,hn,rfl⟩
  ·exact .inl ⟨h0,_,_,rfl⟩
  ·refine .inr ⟨g,cp b',hg, ?_, ?_⟩
   ·show 0+n' ()≤cp b'
    omega
   ·show _=Value.slice (some ⟨g,0*sz,none⟩) (n' ()) (cp b')
    rw[Nat.zero_mul]
 ·split at hd
  ·rename_i q
   have q:=qC.1 q
   subst q
   simp only[Option.some.injEq,Prod.mk.injEq]at hd
   obtain⟨rfl,rfl,rfl⟩:=hd
   rcases qB8 hr with⟨h0,a,c,_,rfl⟩|⟨g,hg,hn,rfl⟩
   ·exact .inl ⟨h0,_,_,rfl⟩
   ·exact .inr ⟨g,_,hg,hn,rfl⟩
  ·cases hd
 ·cases hd
theorem qFZ {c:Call}(hE:EnvOk P E) (ho:o.op= .call c) (hc:c.callee= .builtin .copy) (hh:HeapRel w M β cp h) (hx:∀x,Rep w M β cp (ev s x) (a.eval x)) {nid:Nat}:(qGI E c s h).Sound (Good P o a w M β cp h nid):=by
 unfold qGI
 split
 ·rename_i t t' x y hta ha
  have hargs:c.args= #[x,y]:=Array.toList_inj.1 ha
  have hta0:c.argTypes[0]? =some t:=by rw[←Array.getElem?_toList,hta];rfl
  have run:∀v w',(Builtin.copy_ c.argTypes o.type #[a.eval x,a.eval y]).run P w= .ok v w'→(execOp a.eval o).run P w= .ok (.value v) w':=by
   intro v w' hv
   simp[execOp,ho,resolve,hc,invoke,builtin,hargs,hv]
  split
  case h_2=>trivial
  rename_i et sz by' z q0 hT
  have hTy:=hE.ty t
  rw[hT]at hTy
  obtain⟨hu,hsz,_,hi,_⟩:=hTy
  have hso:=run_sizeOf (P:=P) (w:=w) hi
  split
  case h_2=>trivial
  rename_i b p n hdst
  split
  case h_2=>trivial
  rename_i e sz' k f hb0
  split
  case h_2=>trivial
  rename_i q m g hsrc qz
  have qz:=qC.1 qz
  subst qz
  rintro⟨hq,hpk⟩
  have hpk:p ()+n ()≤k ():=hpk
  have hb:=qJ hb0 rfl
  obtain⟨ao,c',news,ey,hnl,hnc,hn1,hglen,hgrep⟩:=qCq hsz hh (hx y) hsrc hq
  generalize hmn:min (m ()) (n ())=mn
  have hF:∀(i j:Nat) (z:AV),(qBB sz (fun _=>decide (p ()≤(fun _=>i:Th Nat) ()∧(fun _=>i:Th Nat) ()<p ()+mn)) (g fun _=>(fun _=>i:Th Nat) ()-p ()) (f fun _=>i))[j]? =some z→∀(v:Value),
    (p ()≤i→i<p ()+mn→∀z',(g fun _=>i-p ())[j]? =some z'→RepC w M z' v)→(¬(p ()≤i∧i<p ()+mn)→∀z',(f fun _=>i)[j]? =some z'→RepC w M z' v)→(p ()≤i→i<p ()+mn→(g fun _=>i-p ()).length=sz)→(f fun _=>i).length=sz→RepC w M z v:=by
   intro i j z hj v h1 h2 h3 h4
   obtain⟨hjs,rfl⟩:=qBz _ _ _ _ _ _ hj
   refine qBy _ _ (fun hc=> ?_) (fun hc=> ?_)
   ·have hc:=of_decide_eq_true hc
    have hl:=h3 hc.1 hc.2
    refine h1 hc.1 hc.2 _ ?_
    show(g fun _=>i-p ())[j]? =_
    rw[List.getD_eq_getElem?_getD,List.getElem?_eq_getElem (by omega)]
    rfl
   ·have hc:=of_decide_eq_false hc
    refine h2 hc _ ?_
    rw[List.getD_eq_getElem?_getD,List.getElem?_eq_getElem (by omega)]
    rfl
  have hget:∀(O:AObj) d (z:AObj),(h.set b O)[d]? =some z→(d=b∧z=O)∨(d≠b∧h[d]? =some z):=by
   intro O d z hd
   rw[List.getElem?_set]at hd
   split at hd
   ·split at hd
    ·exact .inl ⟨by omega,by cases hd;rfl⟩
    ·cases hd
   ·exact .inr ⟨by omega,hd⟩
  rcases hh.obj b _ hb with⟨e1,e2⟩|⟨gb,cur,e1,e2,e3,e4,e5,e6,e7,e8,e9⟩
  ·
   have hn0:n ()=0:=by omega
   have hm0:mn=0:=by omega
   obtain⟨ax,cx,hax⟩:∃ax cx,a.eval x= .slice ax 0 cx:=by
    rcases qND hdst (hx x)with⟨_,ax,cx,he⟩|⟨gx,cx,hgx,_⟩
    ·exact⟨ax,cx,he⟩
    ·rw[e1]at hgx;cases hgx
   have hr:(Builtin.copy_ c.argTypes o.type #[a.eval x,a.eval y]).run P w= .ok (.int .i64 0) w:=by
    have hl0:∀ad,(loadCells ad 0).run P w= .ok #[] w:=fun ad=>run_loadCells_list (P:=P) w ad [] (fun j v hj=>by simp at hj)
    cases ao<;>cases ax<;>simp[Builtin.copy_,hta0,run_underlying hu,hax,ey,Builtin.lenOf,Builtin.firstCells,hso,hl0,goInt,storeCells]
   refine⟨_,.int .i64 0,w,M,β,cp,run _ _ hr,.inl rfl,⟨(hh.set0 e1 (by exact Or.inl ⟨e1,e2⟩)).1,fun _ _ hM=>⟨rfl,hM⟩,fun _ _=>⟨rfl,rfl⟩,Ext.refl _ _ _,fun g' hg'=> .inl ((hh.set0 e1 (by exact Or.inl ⟨e1,e2⟩)).2 g' hg'),fun _ h1 h2=>absurd h1 h2⟩, ?_⟩
   ·rw[hm0];exact .c (.i .i64 _)
  ·have hml:(news.take (mn*sz)).length=mn*sz:=by
    rw[List.length_take,hnl]
    have:=Nat.mul_le_mul_right sz (show mn≤m () by omega)
    omega
   have hle:(p ()+mn)*sz≤k ()*sz:=Nat.mul_le_mul_right _ (by omega)
   have hle2:k ()*sz≤cur.size:=by rw[e4];exact Nat.mul_le_mul_right _ e6
   have hadd:(p ()+mn)*sz=p ()*sz+mn*sz:=Nat.add_mul _ _ _
   have hcl:cur.toList.length=cur.size:=Array.length_toList
   have hsub:∀v∈news.take (mn*sz),v.oneCell'=true:=fun v hv=>hn1 v (List.mem_of_mem_take hv)
   have hfit:p ()*sz+0+(news.take (mn*sz)).length≤cur.size:=by omega
   have hst:=run_storeCells_at P gb (p ()*sz) e (news.take (mn*sz)) 0 cur w e3 hfit hsub
   generalize hcur':(cur.toList.take (p ()*sz+0)++news.take (mn*sz)++cur.toList.drop (p ()*sz+0+(news.take (mn*sz)).length)).toArray=cur' at hst
   have hcs':cur'.size=cur.size:=by
    rw[←hcur']
    simp only[List.size_toArray,List.length_append,List.length_drop,hml]
    rw[List.length_take]
    omega
   have hnew:∀j,cur'.getD j undef=if p ()*sz≤j∧j<p ()*sz+mn*sz then news.getD (j-p ()*sz) undef else cur.getD j undef:=by
    intro j
    have h3:=qAx cur.toList (news.take (mn*sz)) (p ()*sz) j (by omega)
    rw[hml]at h3
    rw[←hcur',qBh,Nat.add_zero,hml,h3]
    split
    ·rename_i hj
     rw[List.getD_eq_getElem?_getD,List.getD_eq_getElem?_getD,List.getElem?_take,if_pos (by omega)]
    ·rw[qG]
   have hrun:(Builtin.copy_ c.argTypes o.type #[a.eval x,a.eval y]).run P w= .ok (.int .i64 mn) (w.setRow gb cur'):=by
    have hload:∀ad,ao=some ad→(loadCells ad (mn*sz)).run P w= .ok (news.take (mn*sz)).toArray w:=by
     intro ad had
     have:=run_loadCells_list (P:=P) w ad (news.take (mn*sz)) fun j v hj=>by
      rcases hnc with h0|⟨ad',h1,h2⟩
      ·have:mn=0:=by omega
       rw[this]at hj;simp at hj
      ·rw[had]at h1;cases h1
       rw[List.getElem?_take]at hj
       split at hj
       ·exact h2 j v hj
       ·cases hj
     rwa [hml]at this
    have hself:mn=0→cur'=cur:=by
     intro h0
     apply Array.toList_inj.1
     rw[←hcur',h0]
     simp
    rcases qND hdst (hx x)with⟨h0,ax,cx,he⟩|⟨gx,cx,hgx,hpn,he⟩
    ·have hm0:mn=0:=by omega
     rw[hself hm0,setRow_self w gb cur e (0,0) e3,hm0]
     have hmin:Nat.min (m ()) 0=0:=Nat.min_zero _
     have hl0:∀ad,(loadCells ad 0).run P w= .ok #[] w:=fun ad=>run_loadCells_list (P:=P) w ad [] (fun j v hj=>by simp at hj)
     cases ao<;>cases ax<;>simp[Builtin.copy_,hta0,run_underlying hu,he,ey,Builtin.lenOf,Builtin.firstCells,hso,hl0,goInt,storeCells]
    ·rw[e1]at hgx;cases hgx
     have hmin:Nat.min (m ()) (n ())=mn:=hmn
     cases ao with
     |none=>
      have hm0:mn=0:=by
       rcases hnc with h0|⟨ad',h1,h2⟩
       ·omega
       ·cases h1
      rw[hself hm0,setRow_self w gb cur e (0,0) e3]
      simp[Builtin.copy_,hta0,run_underlying hu,he,ey,Builtin.lenOf,Builtin.firstCells,hso,goInt,storeCells,hmn]
     |some ad=>
      have hld:=hload ad rfl
      simp[Builtin.copy_,hta0,run_underlying hu,he,ey,Builtin.lenOf,Builtin.firstCells,hso,goInt,hmn,hld,hst]
   have h2:=qHA (N:=k) (F:=fun j=>qBB sz (fun _=>decide (p ()≤j ()∧j ()<p ()+mn)) (g fun _=>j ()-p ()) (f j)) hh hb e1 e2 e3 hcs' ⟨fun j hj=>by
     rw[hnew]
     split
     ·rename_i hj2
      rw[List.getD_eq_getElem?_getD,List.getElem?_eq_getElem (by rw[List.length_take]at hml;omega)]
      exact hn1 _ (List.getElem_mem _)
     ·exact e5.one j hj,fun i j q1 q2 q3=>by
     have hb1:=Nat.mul_le_mul_right sz q1
     have hb2:=Nat.mul_le_mul_right sz (show p ()+mn≤k () by omega)
     rw[Nat.add_mul]at hb2
     rw[hnew,if_neg (by omega)]
     exact e5.sp i j q1 q2 q3⟩ e6 e4 e7 (fun i hi=>qCa _ _ _ _) fun i j z hi hj=>by
    have hjs:=(qBz _ _ _ _ _ _ hj).1
    have hb1:=Nat.mul_le_mul_right sz (show i+1≤k () by omega)
    rw[Nat.succ_mul]at hb1
    refine hF i j z hj _ (fun g1 g2 z' hz'=> ?_) (fun g1 z' hz'=> ?_) (fun g1 g2=>hglen _ (by omega)) (e8 i hi)
    ·have hr:=hgrep (i-p ()) j z' (by omega) hz'
     have e10:i*sz=p ()*sz+(i-p ())*sz:=by rw[←Nat.add_mul];congr 1;omega
     have b1:=Nat.mul_le_mul_right sz (show i-p ()+1≤mn by omega)
     rw[Nat.succ_mul]at b1
     rw[hnew,if_pos (by omega),show i*sz+j-p ()*sz=(i-p ())*sz+j by omega]
     exact hr
    ·have hn':¬(p ()*sz≤i*sz+j∧i*sz+j<p ()*sz+mn*sz):=by
      rintro⟨a1,a2⟩
      apply g1
      refine⟨?_, ?_⟩
      ·rcases Nat.lt_or_ge i (p ())with h|h
       ·have:=Nat.mul_le_mul_right sz (show i+1≤p () by omega)
        rw[Nat.succ_mul]at this
        omega
       ·exact h
      ·rcases Nat.lt_or_ge i (p ()+mn)with h|h
       ·exact h
       ·have:=Nat.mul_le_mul_right sz h
        omega
     rw[hnew,if_neg hn']
     exact e9 i j z' hi hz'
   subst hmn
   exact⟨_,.int .i64 (min (m ()) (n ()):Nat),_,M,β,cp,run _ _ hrun,.inl rfl,h2,.c (.i .i64 fun _=>((min (m ()) (n ()):Nat):Int))⟩
 ·trivial
theorem qI4 {c:Call}(hE:EnvOk P E) (ho:o.op= .call c) (hc:c.callee= .builtin .append) (hh:HeapRel w M β cp h) (hx:∀x,Rep w M β cp (ev s x) (a.eval x)) {b:Nat}{q:Th Prop}{n:Th Nat}{O:AObj}(ha:qFP E c s h=some (b,q,n,O)) (hq:q ()):
  ∃g cur cur' e sz k f F,h[b]? =some (.vec e sz k f)∧O= .vec e sz k F∧β b=some g∧M g∧w.heap[g]? =some (.cells cur e (0,0))∧cur'.size=cur.size∧OneSp cur' e sz (k ()) (cp b)∧k ()≤cp b∧cur.size=cp b*sz∧cp b≤maxLen∧
   (∀i:Nat,i<k ()→(F fun _=>i).length=sz)∧(∀(i j:Nat) (x:AV),i<k ()→(F fun _=>i)[j]? =some x→RepC w M x (cur'.getD (i*sz+j) undef))∧n ()≤k ()∧
   (execOp a.eval o).run P w= .ok (.value (.slice (some ⟨g,0,none⟩) (n ()) (cp b))) (w.setRow g cur'):=by
 unfold qFP at ha
 split at ha
 case h_2=>cases ha
 rename_i t t' x y hta hargs0
 have hargs:c.args= #[x,y]:=Array.toList_inj.1 hargs0
 split at ha
 case h_2=>cases ha
 rename_i b0 n0 b' sz0 p m e sz bytes z hX hY q0 hT
 have q0:=qC.1 q0
 subst q0
 have hats:c.argTypes= #[t,t]:=Array.toList_inj.1 hta
 have hTy:=hE.ty t
 rw[hT]at hTy
 obtain⟨hu,hsz,_,hi,_⟩:=hTy
 split at ha
 case h_2=>cases ha
 rename_i e' sz' k f hb0
 split at ha
 case h_2=>cases ha
 rename_i q1 q2 q3 q4
 have q1:=qC.1 q1
 have q2:=qC.1 q2
 have q3:=qC.1 q3
 have q4:=qC.1 q4
 subst q1 q2 q3 q4
 simp only[Option.some.injEq,Prod.mk.injEq]at ha
 obtain⟨rfl,rfl,rfl,rfl⟩:=ha
 obtain⟨hq1,hq2⟩:n0 ()+m ()≤k ()∧p ()+m ()≤k ():=hq
 have hb:=qJ hb0 rfl
 have hxx:=hx x
 rw[hX]at hxx
 have hyy:=hx y
 rw[hY]at hyy
 obtain⟨g,hg,hn,ex⟩:=qBK hxx
 rcases hh.obj b0 _ hb with⟨e1,_⟩|⟨g',cur,e1,e2,e3,e4,e5,e6,e7,e8,e9⟩
 ·rw[hg]at e1;cases e1
 rw[hg]at e1;cases e1
 have hsrc:src sz h (.vw b0 sz p m)=some (fun _=>p ()+m ()≤k (),m,fun k=>f fun _=>k ()+p ()):=by
  simp only[src,hb0]
  rw[show Nat.beq sz sz=true from qC.2 rfl]
 obtain⟨ao,c',news,ey,hnl,hnc,hn1,hglen,hgrep⟩:=qCq hsz hh hyy hsrc hq2
 have hle:(n0 ()+m ())*sz≤k ()*sz:=Nat.mul_le_mul_right _ hq1
 have hle2:k ()*sz≤cur.size:=by rw[e4];exact Nat.mul_le_mul_right _ e6
 have hadd:(n0 ()+m ())*sz=n0 ()*sz+m ()*sz:=Nat.add_mul _ _ _
 have hcl:cur.toList.length=cur.size:=Array.length_toList
 have hfit:n0 ()*sz+0+news.length≤cur.size:=by omega
 have hst:=run_storeCells_at P g (n0 ()*sz) e news 0 cur w e3 hfit hn1
 generalize hcur':(cur.toList.take (n0 ()*sz+0)++news++cur.toList.drop (n0 ()*sz+0+news.length)).toArray=cur' at hst
 have hcs':cur'.size=cur.size:=by
  rw[←hcur']
  simp only[List.size_toArray,List.length_append,List.length_drop]
  rw[List.length_take]
  omega
 have hnew:∀j,cur'.getD j undef=if n0 ()*sz≤j∧j<n0 ()*sz+m ()*sz then news.getD (j-n0 ()*sz) undef else cur.getD j undef:=by
  intro j
  have h3:=qAx cur.toList news (n0 ()*sz) j (by omega)
  rw[hnl]at h3
  rw[←hcur',qBh,Nat.add_zero,hnl,h3]
  split
  ·rfl
  ·rw[qG]
 have hrun:(execOp a.eval o).run P w= .ok (.value (.slice (some ⟨g,0,none⟩) (n0 ()+m ()) (cp b0))) (w.setRow g cur'):=by
  obtain⟨i,i1,i2,_⟩:=hi
  have hk1:n0 ()+m ()≤cp b0:=by omega
  have hload:(Builtin.firstCells i.size (m ()) (.slice ao (m ()) c')).run P w= .ok news.toArray w:=by
   rcases hnc with h0|⟨ad,h1,h2⟩
   ·have hn0:news=[]:=List.eq_nil_of_length_eq_zero (by rw[hnl,h0,Nat.zero_mul])
    subst hn0
    have hl0:∀ad,(loadCells ad 0).run P w= .ok #[] w:=fun ad=>run_loadCells_list (P:=P) w ad [] (fun j v hj=>by simp at hj)
    cases ao<;>simp[Builtin.firstCells,h0,hl0]
   ·subst h1
    have:=run_loadCells_list (P:=P) w ad news h2
    rw[hnl]at this
    simp[Builtin.firstCells,i2,this]
  have happ:(Builtin.append_ #[t,t] o.type #[.slice (some ⟨g,0,none⟩) (n0 ()) (cp b0),.slice ao (m ()) c']).run P w= .ok (.slice (some ⟨g,0,none⟩) (n0 ()+m ()) (cp b0)) (w.setRow g cur'):=by
   simp[Builtin.append_,run_underlying hu,sizeOf,typeInfo,i1,i2,Builtin.lenOf,hk1,addr_add]
   rw[i2]at hload
   simp[hload,hst]
  simp[execOp,ho,resolve,hc,invoke,builtin,hargs,hats,ex,ey,happ]
 refine⟨g,cur,cur',e,sz,k,f,_,hb,rfl,hg,e2,e3,hcs',⟨fun j hj=> ?_,fun i j q1 q2 q3=> ?_⟩,e6,e4,e7,fun i hi=>qCa _ _ _ _,fun i j z hi hj=> ?_,hq1,hrun⟩
 ·rw[hnew]
  split
  ·rename_i hj2
   rw[List.getD_eq_getElem?_getD,List.getElem?_eq_getElem (by omega)]
   exact hn1 _ (List.getElem_mem _)
  ·exact e5.one j hj
 ·have hb1:=Nat.mul_le_mul_right sz q1
  rw[hnew,if_neg (by omega)]
  exact e5.sp i j q1 q2 q3
 ·obtain⟨hjs,rfl⟩:=qBz _ _ _ _ _ _ hj
  have hb1:=Nat.mul_le_mul_right sz (show i+1≤k () by omega)
  rw[Nat.succ_mul]at hb1
  refine qBy _ _ (fun hc=> ?_) (fun hc=> ?_)
  ·obtain⟨c1,c2⟩:n0 ()≤i∧i<n0 ()+m ():=of_decide_eq_true hc
   have e10:i*sz=n0 ()*sz+(i-n0 ())*sz:=by rw[←Nat.add_mul];congr 1;omega
   have b1:=Nat.mul_le_mul_right sz (show i-n0 ()+1≤m () by omega)
   rw[Nat.succ_mul]at b1
   have hgl:=hglen (i-n0 ()) (by omega)
   have hr:=hgrep (i-n0 ()) j ((f fun _=>i-n0 ()+p ()).getD j .any) (by omega) (by
    show(f fun _=>i-n0 ()+p ())[j]? =_
    have hgl:(f fun _=>i-n0 ()+p ()).length=sz:=hgl
    rw[List.getD_eq_getElem?_getD,List.getElem?_eq_getElem (by omega)]
    rfl)
   rw[hnew,if_pos (by omega),show i*sz+j-n0 ()*sz=(i-n0 ())*sz+j by omega]
   exact hr
  ·have c0:¬(n0 ()≤i∧i<n0 ()+m ()):=of_decide_eq_false hc
   have hn':¬(n0 ()*sz≤i*sz+j∧i*sz+j<n0 ()*sz+m ()*sz):=by
    rintro⟨a1,a2⟩
    apply c0
    refine⟨?_, ?_⟩
    ·rcases Nat.lt_or_ge i (n0 ())with h|h
     ·have:=Nat.mul_le_mul_right sz (show i+1≤n0 () by omega)
      rw[Nat.succ_mul]at this
      omega
     ·exact h
    ·rcases Nat.lt_or_ge i (n0 ()+m ())with h|h
     ·exact h
     ·have:=Nat.mul_le_mul_right sz h
      omega
   rw[hnew,if_neg hn']
   have hfl:=e8 i hi
   exact e9 i j _ hi (by rw[List.getD_eq_getElem?_getD,List.getElem?_eq_getElem (by omega)];rfl)
theorem qF0 {con:FuncId→Con}{A:List AV}{H:Hp}{K:qBm}{n:Nat}:∀(X:AV) (v:Value),Rep w M β cp X v→qPV E con A H K n X→∃f l cs,v=fnV f cs∧qAs w M β cp l cs.toList∧con f (qLf E f l A) H K
 | .fn f l,v,hr,hv=>by
   obtain⟨cs,h1,h2⟩:=qDQ hr
   exact⟨f,l,cs,h1,h2,hv⟩
 | .ite c x y,v,hr,hv=>by
   have key:(c ()=true→Rep w M β cp x v)∧(c ()=false→Rep w M β cp y v):=by
    cases hr with
    |c h=>cases h with|ite _ _ _ _ h1 h2=>exact⟨fun h=> .c (h1 h),fun h=> .c (h2 h)⟩
    |ite _ _ _ _ h1 h2=>exact⟨h1,h2⟩
   cases hv with
   |mk h1 h2=>
    cases h1 with
    |mk h1=>
     cases h2 with
     |mk h2=>
      cases hb:c ()with
      |true=>exact qF0 x v (key.1 hb) (h1 hb).out
      |false=>exact qF0 y v (key.2 hb) (h2 hb).out
 | .any,_,_,hv=>by cases hv
 | .bc _,_,_,hv=>by cases hv
 | .b _,_,_,hv=>by cases hv
 | .i _ _,_,_,hv=>by cases hv
 | .s _,_,_,hv=>by cases hv
 | .nil,_,_,hv=>by cases hv
 | .con _,_,_,hv=>by cases hv
 | .agg _,_,_,hv=>by cases hv
 | .tup _,_,_,hv=>by cases hv
 | .ptr _ _,_,_,hv=>by cases hv
 | .mr _,_,_,hv=>by cases hv
 | .ept _ _ _ _,_,_,hv=>by cases hv
 | .vw _ _ _ _,_,_,hv=>by cases hv
 | .nn _ _,_,_,hv=>by cases hv
 | .own _ _,_,_,hv=>by cases hv
 | .sl _ _ _,_,_,hv=>by cases hv
 | .rp _,_,_,hv=>by cases hv
 | .fm _ _,_,_,hv=>by cases hv
 | .ifc _ _,_,_,hv=>by cases hv
theorem qKh {k:Th Int}{d:TypeDesc}(hd:d= .int .i64):∀(es:List MapEntry) (ks:List Int) (vs:List AV) (u:Nat→Value) (i:Nat),es.length=ks.length→vs.length=ks.length→(∀(j:Nat) (k:Int),ks[j]? =some k→∃e,es[j]? =some e∧e.key= .int .i64 k∧e.val=u j)→
  (∀(j:Nat) (x:AV),vs[j]? =some x→Rep w M β cp x (u j))→
  ∃r:Option (Nat×Value),Instr.findNow d (.int .i64 (k ())) es i=some r∧r.isSome=okF k ks∧∀v:Value,(r.map (·.2)).getD v=(r.map (·.2)).getD v∧Rep w M β cp (qSJ k ks vs) ((r.map (·.2)).getD v)
 |[],[],[],u,i,_,_,_,_=>⟨none,rfl,rfl,fun v=>⟨rfl,.c (.any _)⟩⟩
 |[],[],_::_,u,i,_,h,_,_=>by simp at h
 |[],_::_,_,u,i,h,_,_,_=>by simp at h
 |_::_,[],_,u,i,h,_,_,_=>by simp at h
 |_::_,_::_,[],u,i,_,h,_,_=>by simp at h
 |e::es,c::ks,x::vs,u,i,h1,h2,h3,h4=>by
  obtain⟨e0,q1,q2,q3⟩:=h3 0 c rfl
  simp at q1
  subst q1
  obtain⟨r,r1,r2,r3⟩:=qKh hd es ks vs (fun j=>u (j+1)) (i+1) (by simpa using h1) (by simpa using h2) (fun j k hj=>by
   have:=h3 (j+1) k (by simpa using hj)
   simpa using this) (fun j x hj=>h4 (j+1) x (by simpa using hj))
  have hx:=h4 0 x rfl
  by_cases hk:k ()=c
  ·refine⟨some (i,e.val), ?_,by simp[okF,hk],fun v=>⟨rfl, ?_⟩⟩
   ·simp[Instr.findNow,hd,q2,Instr.sameNow,hk]
   ·rw[q3]
    exact .ite _ _ _ _ (fun _=>hx) fun h=>absurd hk (of_decide_eq_false h)
  ·refine⟨r, ?_, ?_,fun v=>⟨rfl, ?_⟩⟩
   ·have:((k ()==c):Bool)=false:=by simpa using hk
    simp only[Instr.findNow,hd,q2,Instr.sameNow,if_true,this]
    rw[←hd];exact r1
   ·rw[okF,decide_eq_false hk,Bool.false_or];exact r2
   ·exact .ite _ _ _ _ (fun h=>absurd (of_decide_eq_true h) hk) fun _=>(r3 v).2
theorem qMv {t:TypeId}{x y:Operand}{X Y:AV}{K:AV→Prop}{b:Bool}(hb:b=true→qXz P t) (ho:o.op= .lookup t x y true) (hx:Rep w M β cp X (a.eval x)) (hy:Rep w M β cp Y (a.eval y)) (hv:qNv b X Y K):
  ∃v v',(execOp a.eval o).run P w= .ok (.value v') w∧K v∧Rep w M β cp v v':=by
 unfold qNv at hv
 split at hv
 ·rename_i ks vs k
  obtain⟨kt,et,h1,h2,h3⟩:=hb rfl
  obtain⟨g,e1,es,clk,u,g1,g2,g3,g4,g5,g6⟩:=qRE hx
  have e2:=qAB hy
  obtain⟨r,r1,r2,r3⟩:=qKh (w:=w) (M:=M) (β:=β) (cp:=cp) (k:=k) rfl es.toList ks vs u 0 (by simpa using g3) g4 (fun j k hj=>by
   obtain⟨e,q1,q2,q3⟩:=g5 j k hj
   exact⟨e,by simpa using q1,q2,q3⟩) g6
  have hgo:(getObj g).run P w= .ok (.map es clk) w:=by simp[getObj,Sem.run,g2]
  have hck:(Instr.checkKey es.isEmpty 10000 kt (.int .i64 (k ()))).run P w= .ok () w:=by
   have hik:MapKept.IsKey (.int .i64) (.int .i64 (k ())):=rfl
   exact MapKept.run_checkKey h2 hik _ 9999
  have hfk:(Instr.findKey kt (.int .i64 (k ())) es.toList).run P w= .ok r w:=by
   simp[Instr.findKey,run_underlying h2,r1]
  refine⟨_,.tuple #[(r.map (·.2)).getD .nilFunc,.bool r.isSome], ?_,hv,.tup _ _ rfl fun j z hj=> ?_⟩
  ·cases r with
   |none=>simp[execOp,ho,Instr.lookup,run_underlying h1,e1,e2,hgo,hck,hfk,h3]
   |some p=>simp[execOp,ho,Instr.lookup,run_underlying h1,e1,e2,hgo,hck,hfk]
  ·match j,hj with
   |0,hj=>cases hj;exact(r3 _).2
   |1,hj=>
    cases hj
    have:Rep w M β cp (.b fun _=>okF k ks) (.bool ((fun _:Unit=>okF k ks) ())):= .c (.b _)
    simpa[r2]using this
   |j+2,hj=>simp at hj
 ·cases hv
theorem qMw (hE:EnvOk P E) (hZ:Zl E) (hC:qY P con) (hh:HeapRel w M β cp h) (ht:∀t,Rep w M β cp (lk s t) (a.tmps.getD t undef)) {K:qBm}(hv:qXW E con o s h K)
  {next:Act→World→Prop}{Q:Exit→Act→World→Prop}
  (hn:∀v' w' M' β' cp' v h' kl,K v h' kl→HeapRel w' M' β' cp' h'→AK w M β cp h w' M' β' cp' h' kl→Rep w' M' β' cp' v v'→next (a.put o.dst v') w'):o.wp P a w next Q:=by
 have hx:=fun x=>qGG (a:=a) ht x
 have hs:=qGH (o:=o) (nid:=len h) hE hh (by rw[qK];exact Nat.le_refl _) (hh.out _ (by rw[qK];exact Nat.le_refl _)) hx
 have good:∀v c,Good P o a w M β cp h (len h) v c→K v (c.on (len h) h) []→o.wp P a w next Q:=by
  rintro v c ⟨n,v',w',M',β',cp',hr,hnv,haf,hrep⟩ hK
  unfold Oper.wp
  rw[hr]
  rcases hnv with rfl|⟨rfl,rfl⟩
  ·exact hn _ _ _ _ _ _ _ _ hK haf.heap (AK.of_after haf) hrep
  ·exact hn _ _ _ _ _ _ _ _ hK haf.heap (AK.of_after haf) hrep
 have call:∀f (A:List AV) (vs:Array Value),qAs w M β cp A vs.toList→con f A h K→(Enters P f→(execOp a.eval o).run P w= .ok (.enter f vs) w)→o.wp P a w next Q:=by
  intro f A vs hA hc hr
  obtain⟨he,hf⟩:=hC f A h K hc
  unfold Oper.wp
  rw[hr he,Oper.upon_enter]
  refine(hf w M β cp vs hh hA).mono ?_
  rintro e w' ⟨v,r,H',kl,M',β',cp',rfl,hK,hh',hak,hrep⟩
  exact hn _ _ _ _ _ _ _ _ hK hh' hak hrep
 unfold qXW at hv
 split at hv
 ·rename_i v c hst
  rw[hst]at hs
  exact good v c hs hv
 ·rename_i p v c hst
  rw[hst]at hs
  cases hv with|mk h1 h2=>exact good v c (hs h1) h2
 ·split at hv
  ·rename_i c ho
   have hargs:qAs w M β cp (c.args.toList.map (ev s)) (c.args.map a.eval).toList:=⟨by simp,fun j x hj=>by
    simp only[List.getElem?_map,Option.map_eq_some_iff]at hj
    obtain⟨y,hy,rfl⟩:=hj
    have:(c.args.map a.eval).toList[j]? =some (a.eval y):=by rw[Array.toList_map,List.getElem?_map,hy];rfl
    rw[List.getD_eq_getElem?_getD,this]
    exact hx y⟩
   split at hv
   ·rename_i f hc
    refine call f _ _ hargs hv fun he=> ?_
    simp[execOp,ho,resolve,hc,Act.eval,Deferred.ofValue,invoke,qAv he]
   ·rename_i t hc
    obtain⟨f,l,cs,he2,⟨hl1,hcs⟩,hv⟩:=qF0 _ _ (ht t) hv
    have hlA:(c.args.toList.map (ev s)).length=c.args.size:=by simp
    cases hbd:E.bd f with
    |false=>
     rw[qLf,hbd]at hv
     refine call f _ ((c.args.map a.eval)++cs) ⟨by simp at hl1 ⊢;omega,fun j x hj=> ?_⟩ hv fun he=> ?_
     ·rw[List.getElem?_append]at hj
      rw[Array.toList_append,List.getD_eq_getElem?_getD,List.getElem?_append]
      split at hj
      ·rename_i hlt
       rw[if_pos (by simpa using hlt),←List.getD_eq_getElem?_getD]
       exact hargs.2 j x hj
      ·rename_i hge
       rw[if_neg (by simpa using hge),←List.getD_eq_getElem?_getD]
       have:=hcs _ x hj
       simpa using this
     ·have he3:a.eval (.tmp t)= .func (.func f) #[] cs:=he2.trans (by rw[fnV,hE.bd,hbd])
      simp[execOp,ho,resolve,hc,he3,Deferred.ofValue,invoke,qAv he]
    |true=>
     rw[qLf,hbd]at hv
     refine call f _ (cs++(c.args.map a.eval)) ⟨by simp at hl1 ⊢;omega,fun j x hj=> ?_⟩ hv fun he=> ?_
     ·rw[List.getElem?_append]at hj
      rw[Array.toList_append,List.getD_eq_getElem?_getD,List.getElem?_append]
      split at hj
      ·rename_i hlt
       rw[if_pos (by rw[hl1];exact hlt),←List.getD_eq_getElem?_getD]
       exact hcs j x hj
      ·rename_i hge
       rw[if_neg (by rw[hl1];exact hge),←List.getD_eq_getElem?_getD,hl1]
       exact hargs.2 _ x hj
     ·have he3:a.eval (.tmp t)= .func (.func f) cs #[]:=he2.trans (by rw[fnV,hE.bd,hbd])
      simp[execOp,ho,resolve,hc,he3,Deferred.ofValue,invoke,qAv he]
   ·rename_i rc name hc
    split at hv
    ·rename_i t x hl
     have h1:=hx rc
     rw[hl]at h1
     obtain⟨u,he2,hu⟩:=qCO h1
     split at hv
     ·rename_i f hf
      have hm:=hE.mt t name f hf
      refine call f _ (#[u]++c.args.map a.eval) ⟨by simp,fun j y hj=> ?_⟩ hv fun he=> ?_
      ·cases j with
       |zero=>simp at hj;subst hj;simpa using hu
       |succ j=>
        have:=hargs.2 j y (by simpa using hj)
        simpa using this
      ·simp only[execOp,ho,resolve,hc,he2,Sem.run_bind,Sem.run_pure,Result.andThen_ok,invoke]
       have e0:(#[Value.iface t u]++Array.map a.eval c.args)[0]? =some (.iface t u):=by simp[Array.getElem?_append]
       have e1:(#[Value.iface t u]++Array.map a.eval c.args).extract 1 (#[Value.iface t u]++Array.map a.eval c.args).size=Array.map a.eval c.args:=by
        rw[Array.extract_append];simp
       rw[e0]
       dsimp only
       rw[e1]
       simp only[callMethod,Sem.run_bind,run_program,Result.andThen_ok,hm,qAv he]
     ·cases hv
    ·cases hv
   ·rename_i hc
    split at hv
    ·rename_i b q n O ha
     cases hv with
     |mk hq hK=>
      obtain⟨g,cur,cur',e,sz,k,f,F,a1,rfl,a3,a4,a5,a6,a7,a8,a9,a10,a11,a12,a13,a14⟩:=qI4 hE ho hc hh hx ha hq
      have h2:=qHA hh a1 a3 a4 a5 a6 a7 a8 a9 a10 a11 a12
      unfold Oper.wp
      rw[a14]
      exact hn _ _ _ _ _ _ _ _ hK h2.heap (AK.of_after h2) (.nn b n g a3 (by omega))
    ·split at hv
     ·rename_i hi
      obtain⟨v',w',M',β',cp',v,h',kl,r1,r2,r3,r4,r5⟩:=qMu hE ho hc hh hx hZ.zl hi hv
      unfold Oper.wp
      rw[r1]
      exact hn _ _ _ _ _ _ _ _ r2 r3 r4 r5
     ·obtain⟨v',w',M',β',cp',v,h',kl,r1,r2,r3,r4,r5⟩:=qI0 hE ho hc hh hx hZ.zl hv
      unfold Oper.wp
      rw[r1]
      exact hn _ _ _ _ _ _ _ _ r2 r3 r4 r5
   ·rename_i hc
    obtain⟨v',w',M',β',cp',v,h',kl,r1,r2,r3,r4,r5⟩:=qKf hE hZ.zl ho hc hh hx hv
    unfold Oper.wp
    rw[r1]
    exact hn _ _ _ _ _ _ _ _ r2 r3 r4 r5
   ·rename_i hc
    obtain⟨v',w',M',β',cp',v,h',kl,r1,r2,r3,r4,r5⟩:=qNC hE hZ.zl ho hc hh hx hv
    unfold Oper.wp
    rw[r1]
    exact hn _ _ _ _ _ _ _ _ r2 r3 r4 r5
   ·rename_i hc
    have hs2:=qFZ (nid:=len h) hE ho hc hh hx
    unfold qUG at hv
    split at hv
    ·rename_i v ch he
     rw[he]at hs2
     exact good v ch hs2 hv
    ·rename_i p v ch he
     rw[he]at hs2
     cases hv with|mk h1 h2=>exact good v ch (hs2 h1) h2
    ·cases hv
   ·cases hv
  ·rename_i op t x y t' ho
   obtain⟨b,hr,hK⟩:=qNz (hE.ty t) ho (hx x) (hx y) hv
   unfold Oper.wp
   rw[hr]
   exact hn _ _ _ _ _ _ _ _ hK hh AK.refl (.c (.bc b))
  ·rename_i t x y ho
   obtain⟨v,v',hr,hK,hv'⟩:=qNA (fun r h=>hE.ar t r h) ho (hx x) (hx y) hv
   obtain⟨v,hK,hv'⟩:=qI3 v _ _ hK hv'
   unfold Oper.wp
   rw[hr]
   exact hn _ _ _ _ _ _ _ _ hK hh AK.refl hv'
  ·rename_i t x i ok ho
   split at hv
   ·obtain⟨v,v',hr,hK,hv'⟩:=qMv (fun h=>hE.fm t h) ho (hx x) (hx i) hv
    unfold Oper.wp
    rw[hr]
    exact hn _ _ _ _ _ _ _ _ hK hh AK.refl hv'
   ·cases hv
  ·rename_i f first caps ho
   have go:∀(l:List Operand) (cs:Array Value),cs.toList=l.map a.eval→Rep w M β cp (.fn f (l.map (ev s))) (fnV f cs):=fun l cs hcs=> .fn f _ _ (by have:=congrArg List.length hcs;simp at this;simp[this]) fun j x hj=>by
    simp only[List.getElem?_map,Option.map_eq_some_iff]at hj
    obtain⟨y,hy,rfl⟩:=hj
    have:cs.toList[j]? =some (a.eval y):=by rw[hcs,List.getElem?_map,hy];rfl
    rw[qG,List.getD_eq_getElem?_getD,this]
    exact hx y
   split at hv
   ·have hf':first= #[]:=Array.toList_inj.1 (by assumption)
    have hb:E.bd f=false:=by assumption
    have hr:(execOp a.eval o).run P w= .ok (.value (fnV f (caps.map a.eval))) w:=by rw[fnV,hE.bd,hb];simp[execOp,ho,Instr.makeFunc,hf']
    unfold Oper.wp
    rw[hr]
    exact hn _ _ _ _ _ _ _ _ hv hh AK.refl (go _ _ (by simp))
   ·have hf':caps= #[]:=Array.toList_inj.1 (by assumption)
    have hb:E.bd f=true:=by assumption
    have hr:(execOp a.eval o).run P w= .ok (.value (fnV f (first.map a.eval))) w:=by rw[fnV,hE.bd,hb];simp[execOp,ho,Instr.makeFunc,hf']
    unfold Oper.wp
    rw[hr]
    exact hn _ _ _ _ _ _ _ _ hv hh AK.refl (go _ _ (by simp))
   ·cases hv
  ·cases hv
theorem qF1 (hE:EnvOk P E) (hZ:Zl E) (hC:qY P con) (hh:HeapRel w M β cp h) (ht:∀t,Rep w M β cp (lk s t) (a.tmps.getD t undef)) {K:qBm}(hv:qJ9 E con o s h K)
  {next:Act→World→Prop}{Q:Exit→Act→World→Prop}
  (hn:∀v' w' M' β' cp' v h' kl,K v h' kl→HeapRel w' M' β' cp' h'→AK w M β cp h w' M' β' cp' h' kl→Rep w' M' β' cp' v v'→next (a.put o.dst v') w'):o.wp P a w next Q:=by
 obtain⟨h1,β1,cp1,a1,a2,a3,a4⟩:=qKe hE.fr hv hh
 refine qMw hE hZ hC a2 (fun t=>(ht t).keep (fun _ _ hM=>⟨rfl,hM⟩) a3) a1 fun v' w' M' β' cp' v h' kl hK hh' hak hrep=>hn v' w' M' β' cp' v h' kl hK hh' ?_ hrep
 refine⟨hak.keep,fun b hb h0=> ?_,⟨hak.ext.os,hak.ext.tape,hak.ext.output,hak.ext.size,fun k hk hB=>hak.ext.block k hk fun q=>hB (a4 k q),fun k hk hB=>hak.ext.sub k hk fun q=>hB (a4 k q),hak.ext.new⟩,fun k hk=>(hak.own k hk).imp (a4 k) id⟩
 have h3:=a3 b h0
 have h4:=hak.bk b hb (by rw[h3.1];exact h0)
 exact⟨h4.1.trans h3.1,h4.2.trans h3.2⟩
structure St (w0:World) (M0:Nat→Prop) (β0:Nat→Option Nat) (cp0:Nat→Nat) (h0:Hp) (nt:Nat) (s:Tm) (h:Hp) (kl:List Nat) (a:Act) (w:World):Prop where
 ex:∃M β cp,HeapRel w M β cp h∧(∀t,Rep w M β cp (lk s t) (a.tmps.getD t undef))∧AK w0 M0 β0 cp0 h0 w M β cp h kl
 nt:a.tmps.size=nt
 df:a.defers=[]
variable {w0:World}{M0:Nat→Prop}{β0:Nat→Option Nat}{cp0:Nat→Nat}{h0:Hp}{nt:Nat}{kl:List Nat}
theorem qCj {d:Option Tmp}{v:AV}{v':Value}{s':Tm}(hs:put nt d v s=some s') (hn:a.tmps.size=nt) (ht:∀t,Rep w M β cp (lk s t) (a.tmps.getD t undef)) (hv:Rep w M β cp v v'):
  (∀t,Rep w M β cp (lk s' t) ((a.put d v').tmps.getD t undef))∧(a.put d v').tmps.size=nt∧(a.put d v').defers=a.defers:=by
 unfold put at hs
 split at hs
 ·cases hs;exact⟨ht,hn,rfl⟩
 ·rename_i d
  split at hs
  ·rename_i q
   have q:=qQ.1 q
   cases hs
   refine⟨fun t=> ?_,by simpa[Act.put]using hn,rfl⟩
   simp only[lk,Act.put]
   split
   ·rename_i q2
    have q2:=qC.1 q2
    subst q2
    have:(a.tmps.setIfInBounds d v').getD d undef=v':=by simp[Array.getD_eq_getD_getElem?,hn,q]
    rw[this]
    exact hv
   ·rename_i q2
    have q2:d≠t:=fun e=>by rw[qC.2 e]at q2;cases q2
    have:(a.tmps.setIfInBounds d v').getD t undef=a.tmps.getD t undef:=by simp[Array.getD_eq_getD_getElem?,Array.getElem?_setIfInBounds,q2]
    rw[this]
    exact ht t
  ·cases hs
theorem qDX {d:Nat}{v:AV}(ht:∀t,Rep w M β cp (lk s t) (a.tmps.getD t undef)) (hv:Rep w M β cp v (a.tmps.getD d undef)):∀t,Rep w M β cp (lk ((d,v)::s) t) (a.tmps.getD t undef):=by
 intro t
 simp only[lk]
 split
 ·rename_i q;have q:=qC.1 q;subst q;exact hv
 ·exact ht t
theorem qF2 (hE:EnvOk P E) (hZ:Zl E) (hC:qY P con) {ops:Array Oper}{K:Tm→Hp→List Nat→Prop}{Q:Exit→Act→World→Prop}
  (hQ:∀s h kl a w,K s h kl→St w0 M0 β0 cp0 h0 nt s h kl a w→Q .normal a w):
  ∀(r:List Oper) (i:Nat),r=ops.toList.drop i→∀(s:Tm) (h:Hp) (kl:List Nat) (a:Act) (w:World),qHw E con nt ops.toList r s h kl K→St w0 M0 β0 cp0 h0 nt s h kl a w→
   wpOps P ops Q (List.range' i r.length) a w
 |[],i,_,s,h,kl,a,w,hv,hst=>hQ s h kl a w hv hst
 |o::r,i,hr,s,h,kl,a,w,hv,hst=>by
  have hoi:ops[i]? =some o:=by
   have:(ops.toList.drop i)[0]? =some o:=by rw[←hr];rfl
   simpa[List.getElem?_drop]using this
  have hr':r=ops.toList.drop (i+1):=by
   rw[←List.tail_drop,←hr];rfl
  have ih:=qF2 hE hZ hC hQ r (i+1) hr'
  simp only[List.length_cons,List.range'_succ,wpOps,hoi]
  obtain⟨⟨M,β,cp,hh,ht,hak⟩,hnt,hdf⟩:=hst
  have run:∀s1:Tm,(∀t,Rep w M β cp (lk s1 t) (a.tmps.getD t undef))→(qJ9 E con o s1 h fun v h' kl'=>match put nt o.dst v (qCT kl' s1)with
   |some s'=>qHw E con nt ops.toList r s' h' (kl'++kl) K
   |none=>Bad 100)→o.wp P a w (wpOps P ops Q (List.range' (i+1) r.length)) Q:=by
   intro s1 ht1 hv1
   refine qF1 hE hZ hC hh ht1 hv1 fun v' w' M' β' cp' v h' kl' hK hh' hak' hrep=> ?_
   split at hK
   ·rename_i s' qBe
    have ht2:∀t,Rep w' M' β' cp' (lk (qCT kl' s1) t) (a.tmps.getD t undef):=fun t=>by rw[qFT];exact hak'.rep (ht1 t)
    obtain⟨p1,p2,p3⟩:=qCj qBe hnt ht2 hrep
    exact ih s' h' (kl'++kl) _ w' hK ⟨⟨M',β',cp',hh',p1,hak.trans hak'⟩,p2,p3.trans hdf⟩
   ·cases hK
  have skip:∀s1:Tm,(∀t,Rep w M β cp (lk s1 t) (a.tmps.getD t undef))→(match put nt o.dst (.tup []) s1 with
   |some s'=>qHw E con nt ops.toList r s' h kl K
   |none=>Bad 101)→wpOps P ops Q (List.range' (i+1) r.length) (a.put o.dst undef) w:=by
   intro s1 ht1 hv1
   split at hv1
   ·rename_i s' qBe
    obtain⟨p1,p2,p3⟩:=qCj qBe hnt ht1 (.tup [] #[] rfl fun j x hj=>by simp at hj)
    exact ih s' h kl _ w hv1 ⟨⟨M,β,cp,hh,p1,hak⟩,p2,p3.trans hdf⟩
   ·cases hv1
  unfold qHw at hv
  dsimp only at hv
  split at hv
  ·rename_i hg
   rw[if_pos (by simp[Region.wanted,hg])]
   exact .inl (run s ht hv)
  ·rename_i j b hg
   split at hv
   ·cases hv
   ·rename_i d hd
    have hdj:(ops[j]?).bind (·.dst)=some d:=by
     rw[qAt,List.getD_eq_getElem?_getD,List.getElem?_map]at hd
     rw[←Array.getElem?_toList]
     cases hoj:ops.toList[j]? with
     |none=>rw[hoj]at hd;simp at hd
     |some x=>rw[hoj]at hd;simpa using hd
    have hw:∀x:Bool,a.tmps.getD d undef= .bool x→Region.wanted o (yielded ops a.tmps)=(x==b):=by
     intro x hx
     have hlt:d<a.tmps.size:=by
      rcases Nat.lt_or_ge d a.tmps.size with h1|h1
      ·exact h1
      ·simp[Array.getD_eq_getD_getElem?,Array.getElem?_eq_none h1,undef]at hx
     have:a.tmps[d]? =some (.bool x):=by
      rw[Array.getElem?_eq_getElem hlt]
      simpa[Array.getD,hlt]using hx
     simp[Region.wanted,hg,yielded,hdj,this]
    have hd1:=ht d
    have wt:Region.wanted o (yielded ops a.tmps)=true→∀s1:Tm,(∀t,Rep w M β cp (lk s1 t) (a.tmps.getD t undef))→(qJ9 E con o s1 h fun v h' kl'=>match put nt o.dst v (qCT kl' s1)with
      |some s'=>qHw E con nt ops.toList r s' h' (kl'++kl) K
      |none=>Bad 100)→(if Region.wanted o (yielded ops a.tmps)=true then o.wp P a w (wpOps P ops Q (List.range' (i+1) r.length)) Q∨(o.asks P a w∧LetsOut Q)else wpOps P ops Q (List.range' (i+1) r.length) (a.put o.dst undef) w):=by
     intro h1 s1 h2 h3
     rw[if_pos h1]
     exact .inl (run s1 h2 h3)
    have wf:Region.wanted o (yielded ops a.tmps)=false→∀s1:Tm,(∀t,Rep w M β cp (lk s1 t) (a.tmps.getD t undef))→(match put nt o.dst (.tup []) s1 with
      |some s'=>qHw E con nt ops.toList r s' h kl K
      |none=>Bad 101)→(if Region.wanted o (yielded ops a.tmps)=true then o.wp P a w (wpOps P ops Q (List.range' (i+1) r.length)) Q∨(o.asks P a w∧LetsOut Q)else wpOps P ops Q (List.range' (i+1) r.length) (a.put o.dst undef) w):=by
     intro h1 s1 h2 h3
     rw[if_neg (by simp[h1])]
     exact skip s1 h2 h3
    split at hv
    ·rename_i x hl
     rw[hl]at hd1
     have hw:=hw x (qAN hd1)
     split at hv
     ·exact wt (by rw[hw];rfl) s ht hv
     ·exact wt (by rw[hw];rfl) s ht hv
     ·rename_i n1 n2
      refine wf ?_ s ht hv
      rw[hw]
      cases x<;>cases b<;>first|rfl|exact(n1 rfl rfl).elim|exact(n2 rfl rfl).elim
    ·rename_i x hl
     rw[hl]at hd1
     have hx:=qBU hd1
     have hw:=hw _ hx
     split at hv
     ·cases hv with
      |mk h1 h2=>
       cases h1 with
       |mk h1=>
        cases h2 with
        |mk h2=>
         cases hb:x ()with
         |true=>exact wt (by rw[hw,hb];rfl) _ (qDX ht (by rw[hx,hb];exact .c (.bc true))) (h1 hb).out
         |false=>exact wf (by rw[hw,hb];rfl) _ (qDX ht (by rw[hx,hb];exact .c (.bc false))) (h2 hb).out
     ·cases hv with
      |mk h1 h2=>
       cases h1 with
       |mk h1=>
        cases h2 with
        |mk h2=>
         cases hb:x ()with
         |true=>exact wf (by rw[hw,hb];rfl) _ (qDX ht (by rw[hx,hb];exact .c (.bc true))) (h1 hb).out
         |false=>exact wt (by rw[hw,hb];rfl) _ (qDX ht (by rw[hx,hb];exact .c (.bc false))) (h2 hb).out
    ·rename_i hl
     rw[hl]at hd1
     obtain⟨cs,he,hL⟩:=qBG hd1
     refine wf ?_ s ht hv
     simp only[Region.wanted,hg,yielded,hdj,Option.bind_some]
     cases hx:a.tmps[d]? with
     |none=>rfl
     |some v=>
      have:a.tmps.getD d undef=v:=by simp[Array.getD_eq_getD_getElem?,hx]
      rw[he]at this
      subst this
      rfl
    ·cases hv
end
end Go.Abs
namespace Go.Abs
open Go
variable [Kd]
section
variable {P:Program}{w:World}{M:Nat→Prop}{β:Nat→Option Nat}{cp:Nat→Nat}{h:Hp}
def reβ (as:As) (N:Nat) (β:Nat→Option Nat):Nat→Option Nat:=fun j=>if j<N then(match fwd j as with|some b=>β b|none=>none)else none
def qNg (as:As) (cp:Nat→Nat):Nat→Nat:=fun j=>match fwd j as with|some b=>cp b|none=>0
theorem qNE:∀{as:As},qLg as=true→∀{j b:Nat},bwd b as=some j→fwd j as=some b
 |[],_,j,b,h=>by simp[bwd]at h
 |(i,c)::r,ho,j,b,h=>by
  simp only[qLg]at ho
  split at ho
  ·rename_i h1 h2
   simp only[bwd]at h
   simp only[fwd]
   split at h
   ·rename_i q
    have q:=qC.1 q
    cases h
    subst q
    rw[qC.2 rfl]
   ·have ih:=qNE ho h
    split
    ·rename_i q
     have q:=qC.1 q
     subst q
     rw[h1]at ih;cases ih
    ·exact ih
  ·cases ho
theorem qDC:∀{as:As},qLg as=true→∀{j b:Nat},fwd j as=some b→bwd b as=some j
 |[],_,j,b,h=>by simp[fwd]at h
 |(i,c)::r,ho,j,b,h=>by
  simp only[qLg]at ho
  split at ho
  ·rename_i h1 h2
   simp only[fwd]at h
   simp only[bwd]
   split at h
   ·rename_i q
    have q:=qC.1 q
    cases h
    subst q
    rw[qC.2 rfl]
   ·have ih:=qDC ho h
    split
    ·rename_i q
     have q:=qC.1 q
     subst q
     rw[h2]at ih;cases ih
    ·exact ih
  ·cases ho
variable {as:As}{N:Nat}
theorem qF3 (ho:qLg as=true) (hN:∀j b,fwd j as=some b→j<N) {j b:Nat}(h:bwd b as=some j):reβ as N β j=β b∧qNg as cp j=cp b:=by
 have h1:=qNE ho h
 have h2:=hN j b h1
 simp[reβ,qNg,h1,h2]
mutual
theorem qDD (ho:qLg as=true) (hN:∀j b,fwd j as=some b→j<N):∀(x:AV) (v:Value),Rep w M β cp x v→Rep w M (reβ as N β) (qNg as cp) (ren as x) v
 | .any,v,_=> .c (.any v)
 | .bc p,v,hr=>by cases hr with|c h=>exact .c h
 | .b p,v,hr=>by cases hr with|c h=>exact .c h
 | .i k n,v,hr=>by cases hr with|c h=>exact .c h
 | .s x,v,hr=>by cases hr with|c h=>exact .c h
 | .nil,v,hr=>by cases hr with|c h=>exact .c h
 | .con x,v,hr=>by cases hr with|c h=>exact .c h
 | .sl sz n f,v,hr=>by cases hr with|c h=>exact .c h
 | .rp l,v,hr=>by cases hr with|c h=>exact .c h
 | .agg l,v,hr=>by
   obtain⟨cs,rfl,hL,hone⟩:=qBs hr
   have:=qCz ho hN l _ hL
   exact .agg _ cs (by simpa using this.1) (fun v hv=>hone v (by simpa using hv)) fun j x hj=>by rw[qG];exact this.2 j x hj
 | .tup l,v,hr=>by
   obtain⟨cs,rfl,hL⟩:=qBG hr
   have:=qCz ho hN l _ hL
   exact .tup _ cs (by simpa using this.1) fun j x hj=>by rw[qG];exact this.2 j x hj
 | .fn f l,v,hr=>by
   obtain⟨cs,rfl,hL⟩:=qDQ hr
   have:=qCz ho hN l _ hL
   exact .fn f _ cs (by simpa using this.1) fun j x hj=>by rw[qG];exact this.2 j x hj
 | .fm _ _,v,hr=> .c (.any v)
 | .ifc t x,v,hr=>by
   obtain⟨u,rfl,h⟩:=qCO hr
   exact .ifc t _ u (qDD ho hN x u h)
 | .ptr c o,v,hr=>by
   obtain⟨g,hg,rfl⟩:=qA7 hr
   simp only[ren]
   split
   ·rename_i j hj
    exact .ptr _ o g (by rw[(qF3 (β:=β) (cp:=cp) ho hN hj).1];exact hg)
   ·exact .c (.any _)
 | .mr c,v,hr=>by
   obtain⟨g,hg,rfl⟩:=qE2 hr
   simp only[ren]
   split
   ·rename_i j hj
    exact .mr _ g (by rw[(qF3 (β:=β) (cp:=cp) ho hN hj).1];exact hg)
   ·exact .c (.any _)
 | .ept c sz i o,v,hr=>by
   obtain⟨g,hg,rfl⟩:=qBH hr
   simp only[ren]
   split
   ·rename_i j hj
    exact .ept _ sz i o g (by rw[(qF3 (β:=β) (cp:=cp) ho hN hj).1];exact hg)
   ·exact .c (.any _)
 | .own c m,v,hr=>by
   simp only[ren]
   split
   ·rename_i j hj
    rcases qW hr with⟨h0,rfl⟩|⟨g,hg,hn,rfl⟩
    ·exact .own0 _ m h0
    ·have h1:=qF3 (β:=β) (cp:=cp) ho hN hj
     rw[←h1.2]
     exact .own _ m g (by rw[h1.1];exact hg) (by rw[h1.2];exact hn)
   ·exact .c (.any _)
 | .nn c m,v,hr=>by
   simp only[ren]
   split
   ·rename_i j hj
    obtain⟨g,hg,hn,rfl⟩:=qBK hr
    have h1:=qF3 (β:=β) (cp:=cp) ho hN hj
    rw[←h1.2]
    exact .nn _ m g (by rw[h1.1];exact hg) (by rw[h1.2];exact hn)
   ·exact .c (.any _)
 | .vw c sz p m,v,hr=>by
   simp only[ren]
   split
   ·rename_i j hj
    rcases qB8 hr with⟨h0,a,c',hc',rfl⟩|⟨g,hg,hn,rfl⟩
    ·exact .vw0 _ sz p m a c' h0 hc'
    ·have h1:=qF3 (β:=β) (cp:=cp) ho hN hj
     rw[←h1.2]
     exact .vw _ sz p m g (by rw[h1.1];exact hg) (by rw[h1.2];exact hn)
   ·exact .c (.any _)
 | .ite c x y,v,hr=>by
   have key:(c ()=true→Rep w M β cp x v)∧(c ()=false→Rep w M β cp y v):=by
    cases hr with
    |c h=>cases h with|ite _ _ _ _ h1 h2=>exact⟨fun h=> .c (h1 h),fun h=> .c (h2 h)⟩
    |ite _ _ _ _ h1 h2=>exact⟨h1,h2⟩
   exact .ite c _ _ v (fun hc=>qDD ho hN x v (key.1 hc)) (fun hc=>qDD ho hN y v (key.2 hc))
theorem qCz (ho:qLg as=true) (hN:∀j b,fwd j as=some b→j<N):∀(l:List AV) (vs:List Value),qAs w M β cp l vs→qAs w M (reβ as N β) (qNg as cp) (qLh as l) vs
 |[],vs,hr=>⟨hr.1,fun j x hj=>by simp[qLh]at hj⟩
 |x::l,vs,hr=>by
  match vs,hr with
  |[],hr=>exact absurd hr.1 (by simp)
  |u::vs,hr=>
   have hx:=qDD ho hN x u (by have:=hr.2 0 x rfl;simpa using this)
   have:=qCz ho hN l vs ⟨by have:=hr.1;simp at this;omega,fun j x hj=>by have:=hr.2 (j+1) x (by simpa using hj);simpa using this⟩
   refine⟨by have:=this.1;simp[qLh];omega,fun j z hj=> ?_⟩
   cases j with
   |zero=>simp[qLh]at hj;subst hj;simpa using hx
   |succ j=>have:=this.2 j z (by simpa[qLh]using hj);simpa using this
end
theorem qCA {H:Hp}:∀(H0:Hp) (k j:Nat) (o:AObj),(qIV as H k H0)[j]? =some o→∃y,H0[j]? =some y∧o=qNf as H (k+j) y
 |[],_,_,_,h=>by simp[qIV]at h
 |y::r,k,0,o,h=>by simp[qIV]at h;exact⟨y,rfl,by rw[←h];rfl⟩
 |y::r,k,j+1,o,h=>by
  obtain⟨z,h1,h2⟩:=qCA r (k+1) j o (by simpa[qIV]using h)
  exact⟨z,by simpa using h1,by rw[h2,show k+1+j=k+(j+1) by omega]⟩
theorem qFn {H:Hp}:∀(H0:Hp) (k:Nat),(qIV as H k H0).length=H0.length
 |[],_=>rfl
 |y::r,k=>by simp[qIV,qFn r (k+1)]
theorem qDY {j:Nat}{y:AObj}{g k N:Nat}(hjl:j<N) (hl:(qNf as h j y).live=true) (hg:reβ as N β j=some g) (hk:Foot w g (qNf as h j y) k):
  ∃b o,fwd j as=some b∧h[b]? =some o∧o.live=true∧β b=some g∧Foot w g o k:=by
 simp only[reβ,hjl,if_true]at hg
 split at hg
 ·rename_i b hb
  simp only[qNf,hb]at hl hk
  have hL:(nth .dead h b).live=true:=by
   split at hl
   ·rename_i hq;rw[hq];rfl
   ·rename_i hq;rw[hq];rfl
   ·exact hl
  refine⟨b,nth .dead h b,hb,qJ rfl hL,hL,hg, ?_⟩
  split at hk
  ·rename_i hq;rw[hk.eq nofun];exact .self _
  ·rename_i hq;rw[hq];exact qBQ hk
  ·exact hk
 ·cases hg
theorem qFo (hh:HeapRel w M β cp h) {H0:Hp}(ho:qLg as=true) (hN:∀j b,fwd j as=some b→j<H0.length):HeapRel w M (reβ as H0.length β) (qNg as cp) (qIV as h 0 H0):=by
 have hnth:∀b o,nth .dead h b=o→o.live=true→h[b]? =some o:=fun b o h1 h2=>qJ h1 h2
 have key:∀j o,(qIV as h 0 H0)[j]? =some o→∃y,H0[j]? =some y∧o=qNf as h j y:=fun j o hj=>by
  obtain⟨y,h1,h2⟩:=qCA H0 0 j o hj
  exact⟨y,h1,by rw[h2,Nat.zero_add]⟩
 refine⟨fun j hj=> ?_,fun j o hj=> ?_,fun j j' o o' g1 g2 k hj hj' hl hl' hg hg' hk hk'=> ?_,hh.dom⟩
 ·rw[qFn]at hj
  have:¬j<H0.length:=by omega
  simp[reβ,this]
 ·obtain⟨y,hy,rfl⟩:=key j o hj
  have hjl:=(List.getElem?_eq_some_iff.1 hy).1
  unfold qNf
  split
  ·rename_i b hb
   have e1:reβ as H0.length β j=β b:=by simp[reβ,hjl,hb]
   have e2:qNg as cp j=cp b:=by simp[qNg,hb]
   cases hn:nth .dead h b with
   |dead=>trivial
   |blk cs=>
    have:=hh.obj b _ (hnth b _ hn rfl)
    obtain⟨g,cur,t,h1,h2,h3,h4,h5⟩:=this
    exact⟨g,cur,t,e1.trans h1,h2,h3,qCz ho hN _ _ h4,⟨h5.1,by rw[e2];exact h5.2⟩⟩
   |vec e sz n f=>
    have:=hh.obj b _ (hnth b _ hn rfl)
    rcases this with⟨h1,h2⟩|⟨g,cur,h1,h2,h3,h4,h5,h6,h7,h8,h9⟩
    ·exact .inl ⟨e1.trans h1,h2⟩
    ·exact .inr ⟨g,cur,e1.trans h1,h2,h3,by rw[e2];exact h4,by rw[e2];exact h5,by rw[e2];exact h6,by rw[e2];exact h7,h8,h9⟩
   |fz q n f=>
    have:=hh.obj b _ (hnth b _ hn rfl)
    obtain⟨g,cur,t,fr,h1,h2,h3,h4,h5,h6⟩:=this
    exact⟨g,cur,t,fr,e1.trans h1,h2,h3,h4,⟨h5.1,by rw[e2];exact h5.2⟩,h6⟩
   |mp T l=>
    have:=hh.obj b _ (hnth b _ hn rfl)
    obtain⟨g,es,clk,h1,h2,h3,h4⟩:=this
    exact⟨g,es,clk,e1.trans h1,h2,h3,h4⟩
   |nst e sz n F op=>
    have:=hh.obj b _ (hnth b _ hn rfl)
    rcases this with⟨h1,h2,h3⟩|⟨g,cur,h1,r⟩
    ·exact .inl ⟨e1.trans h1,h2,by rw[h3];rfl⟩
    ·refine .inr ⟨g,cur,e1.trans h1, ?_⟩
     rw[e2]
     exact r.opMap _ (qCz ho hN)
  ·rename_i hb
   cases y with
   |dead=>trivial
   |blk cs=>trivial
   |vec e sz n f=>exact .inl ⟨by simp[reβ,hb],rfl⟩
   |fz q n f=>trivial
   |mp T l=>trivial
   |nst e sz n F op=>cases op with|none=>exact .inl ⟨by simp[reβ,hb],rfl,rfl⟩|some _=>trivial
 ·obtain⟨y,hy,rfl⟩:=key j o hj
  obtain⟨y',hy',rfl⟩:=key j' o' hj'
  have hjl:=(List.getElem?_eq_some_iff.1 hy).1
  have hjl':=(List.getElem?_eq_some_iff.1 hy').1
  have out:∀j (y:AObj) g,j<H0.length→(qNf as h j y).live=true→reβ as H0.length β j=some g→Foot w g (qNf as h j y) k→∃b o,fwd j as=some b∧h[b]? =some o∧o.live=true∧β b=some g∧Foot w g o k:=fun j y g hjl hl hg hk=>qDY hjl hl hg hk
  obtain⟨b,x,b1,b2,b3,b4,b5⟩:=out j y g1 hjl hl hg hk
  obtain⟨b',x',c1,c2,c3,c4,c5⟩:=out j' y' g2 hjl' hl' hg' hk'
  have:=hh.inj2 b b' x x' g1 g2 k b2 c2 b3 c3 b4 c4 b5 c5
  subst this
  have p1:=qDC ho b1
  have p2:=qDC ho c1
  rw[p1]at p2
  cases p2
  rfl
theorem qDm:∀{as:As},qCo N as=true→∀j b,fwd j as=some b→j<N
 |[],_,j,b,h=>by simp[fwd]at h
 |(i,c)::r,hb,j,b,h=>by
  simp only[qCo]at hb
  split at hb
  ·rename_i q
   simp only[fwd]at h
   split at h
   ·rename_i q2
    have:=qC.1 q2
    subst this
    exact qQ.1 q
   ·exact qDm hb j b h
  ·cases hb
theorem qNF {t:Nat}:∀{s:Tm},lk (qUw as s) t=ren as (lk s t)
 |[]=>rfl
 |(i,v)::r=>by
  simp only[qUw,lk]
  split
  ·rfl
  ·exact qNF
theorem qFp {H0:Hp}{k:Nat}(hg:qAL w (reβ as H0.length β) (qIV as h 0 H0) k):qAL w β h k:=by
 obtain⟨b,x,g,hx,hxl,hb4,hk⟩:=hg
 obtain⟨y,hy,rfl⟩:=qCA H0 0 b x hx
 have hbl:=(List.getElem?_eq_some_iff.1 hy).1
 rw[Nat.zero_add]at hxl hk
 obtain⟨c,o,q1,q2,q3,q4,q5⟩:=qDY hbl hxl hb4 hk
 exact⟨c,o,g,q2,q3,q4,q5⟩
end
end Go.Abs
namespace Go.Abs
open Go
variable [Kd]
section
variable {P:Program}{E:Env}{con:FuncId→Con}{w:World}{M:Nat→Prop}{β:Nat→Option Nat}{cp:Nat→Nat}{h:Hp}{o:Oper}{a:Act}{s:Tm}
variable {w0:World}{M0:Nat→Prop}{β0:Nat→Option Nat}{cp0:Nat→Nat}{h0:Hp}{nt:Nat}{kl:List Nat}
theorem qLl {t:Nat}:∀(keep:List Nat),lk (prune keep s) t=lk s t∨lk (prune keep s) t= .any
 |[]=> .inr rfl
 |i::r=>by
  simp only[prune,List.map_cons,lk]
  split
  ·rename_i q;have q:=qC.1 q;subst q;exact .inl rfl
  ·exact qLl r
theorem St.prune {keep:List Nat}(hs:St w0 M0 β0 cp0 h0 nt s h kl a w):St w0 M0 β0 cp0 h0 nt (prune keep s) h kl a w:=by
 obtain⟨⟨M,β,cp,hh,ht,hak⟩,hn,hd⟩:=hs
 exact⟨⟨M,β,cp,hh,fun t=>(qLl keep).elim (fun e=>by rw[e];exact ht t) (fun e=>by rw[e];exact .c (.any _)),hak⟩,hn,hd⟩
theorem St.mono {kl':List Nat}(hs:St w0 M0 β0 cp0 h0 nt s h kl a w) (hk:qKa kl kl'=true):St w0 M0 β0 cp0 h0 nt s h kl' a w:=by
 obtain⟨⟨M,β,cp,hh,ht,hak⟩,hn,hd⟩:=hs
 exact⟨⟨M,β,cp,hh,ht,hak.mono fun b hb=>qHx hk hb⟩,hn,hd⟩
theorem St.le {s':Tm}{k:Hp}(hs:St w0 M0 β0 cp0 h0 nt s h kl a w) (hb:∀b,h0.length≤b→β0 b=none) (hk:h0.length≤k.length) (h1:leT s s' k) (h2:leH h k):St w0 M0 β0 cp0 h0 nt s' k kl a w:=by
 obtain⟨⟨M,β,cp,hh,ht,hak⟩,hn,hd⟩:=hs
 unfold leT at h1
 rw[qK]at h1
 refine⟨⟨M,cut k.length β,cp,qDV hh h2,qIX ht s' h1,⟨hak.keep,fun b hbk h00=> ?_,hak.ext,fun g hg=> ?_⟩⟩,hn,hd⟩
 ·have h3:=hak.bk b hbk h00
  have h4:b<k.length:=by
   rcases Nat.lt_or_ge b h0.length with h5|h5
   ·omega
   ·exact absurd (hb b h5) h00
  exact⟨by simp[cut,h4,h3.1],h3.2⟩
 ·obtain⟨b,o,g0,hb1,hb2,hb3,hb5⟩:=hg
  unfold leH at h2
  have hb4:β b=some g0:=by
   simp only[cut]at hb3
   split at hb3
   ·exact hb3
   ·cases hb3
  rcases qDf h2 b o hb1 with⟨x,hx,hxo⟩|⟨hlen,_⟩
  ·exact hak.own g ⟨b,x,g0,hx,qDg hxo hb2,hb4,qDh x o (hh.obj b x hx) hb4 hxo hb5⟩
  ·rw[hh.out b hlen]at hb4;cases hb4
theorem St.cls {K:Hp→Prop}(hs:St w0 M0 β0 cp0 h0 nt s h kl a w) (hE:EnvOk P E) (hv:qMq E (len h) h K):∃h',K h'∧St w0 M0 β0 cp0 h0 nt s h' kl a w:=by
 obtain⟨⟨M,β,cp,hh,ht,hak⟩,hn,hd⟩:=hs
 obtain⟨h',a1,a2,_,a4⟩:=qDA hE.fr _ h K hv hh
 exact⟨h',a1,⟨M,β,cp,a2,ht,⟨hak.keep,hak.bk,hak.ext,fun k hk=>hak.own k (a4 k hk)⟩⟩,hn,hd⟩
def Ex.to:Ex→Exit
 | .nrm=> .normal
 | .exit i=> .exit i
 | .ret=> .ret
 | .jmp l=> .goto l
def qED (P:Program) (drw:Drw):Prop:=
 ∀(w0:World) (M0:Nat→Prop) (β0:Nat→Option Nat) (cp0:Nat→Nat) (h0:Hp) (nt:Nat) (id:Nat) (ops:Array Oper) (s:Tm) (h:Hp) (kl:List Nat) (a:Act) (w:World) (K:Tm→Hp→List Nat→Prop) (Q:Exit→Act→World→Prop),
  drw nt ops.toList s h kl K→St w0 M0 β0 cp0 h0 nt s h kl a w→(∀s h kl a w,K s h kl→St w0 M0 β0 cp0 h0 nt s h kl a w→Q .normal a w)→(Code.region id ops true).wp P Q a w
theorem qD:qED P qAa:=fun _ _ _ _ _ _ _ _ _ _ _ _ _ _ _ h=>by cases h
theorem St.ren {s':Tm}{k:Hp}{as:As}{kl':List Nat}(hs:St w0 M0 β0 cp0 h0 nt s h kl a w) (hb:∀b,h0.length≤b→β0 b=none) (h00:h0.length=0) (ho:qLg as=true) (hN:qCo k.length as=true)
  (h1:leT (qUw as s) s' k) (h2:leH (qIV as h 0 k) k):St w0 M0 β0 cp0 h0 nt s' k kl' a w:=by
 obtain⟨⟨M,β,cp,hh,ht,hak⟩,hn,hd⟩:=hs
 have hN:=qDm hN
 refine St.le (h:=qIV as h 0 k) (s:=qUw as s) ⟨⟨M,reβ as k.length β,qNg as cp,qFo hh ho hN,fun t=> ?_,⟨hak.keep,fun b _ hb0=>absurd (hb b (by omega)) hb0,hak.ext,fun g hg=>hak.own g (qFp hg)⟩⟩,hn,hd⟩ hb (by omega) h1 h2
 rw[qNF]
 exact qDD ho hN _ _ (ht t)
theorem qGP {ops:Array Oper}{K:Tm→Prop}{Q:Exit→Act→World→Prop}(hQ:∀s a w,K s→St w0 M0 β0 cp0 h0 nt s h kl a w→Q .normal a w):
  ∀(r:List Oper) (i:Nat),r=ops.toList.drop i→∀(s:Tm) (a:Act) (w:World),qUv nt r s K→St w0 M0 β0 cp0 h0 nt s h kl a w→wpOps P ops Q (List.range' i r.length) a w
 |[],i,_,s,a,w,hv,hst=>hQ s a w hv hst
 |o::r,i,hr,s,a,w,hv,hst=>by
  have hoi:ops[i]? =some o:=by
   have:(ops.toList.drop i)[0]? =some o:=by rw[←hr];rfl
   simpa[List.getElem?_drop]using this
  have hr':r=ops.toList.drop (i+1):=by
   rw[←List.tail_drop,←hr];rfl
  have ih:=qGP hQ r (i+1) hr'
  simp only[List.length_cons,List.range'_succ,wpOps,hoi]
  obtain⟨⟨M,β,cp,hh,ht,hak⟩,hnt,hdf⟩:=hst
  have go:∀x,(execOp a.eval o).run P w= .ok (.value (a.eval x)) w→o.guard=none→(match put nt o.dst (ev s x) s with
   |some s'=>qUv nt r s' K
   |none=>Bad 281)→(if Region.wanted o (yielded ops a.tmps)=true then o.wp P a w (wpOps P ops Q (List.range' (i+1) r.length)) Q∨(o.asks P a w∧LetsOut Q)else wpOps P ops Q (List.range' (i+1) r.length) (a.put o.dst undef) w):=by
   intro x hrun hg hk
   rw[if_pos (by simp[Region.wanted,hg])]
   refine .inl ?_
   unfold Oper.wp
   rw[hrun]
   split at hk
   ·rename_i s' qBe
    obtain⟨p1,p2,p3⟩:=qCj qBe hnt ht (qGG ht x)
    exact ih s' _ w hk ⟨⟨M,β,cp,hh,p1,hak⟩,p2,p3.trans hdf⟩
   ·cases hk
  unfold qUv at hv
  split at hv
  ·rename_i x hg ho
   exact go x (by simp[execOp,ho]) hg hv
  ·rename_i x hg ho
   refine go x (by simp[execOp,ho]) hg ?_
   split at hv
   ·rename_i s' qBe;rw[qBe];exact hv
   ·cases hv
  ·cases hv
theorem qNG {k:Int}:∀{ks:List Int},qXF k ks=false→okF (fun _=>k) ks=false
 |[],_=>rfl
 |c::r,h=>by
  unfold qXF at h
  split at h
  ·cases h
  ·rename_i hne _
   simp[okF,qNG h,hne]
structure MapSt (w0:World) (M0:Nat→Prop) (β0:Nat→Option Nat) (cp0:Nat→Nat) (h0:Hp) (nt d0:Nat) (s:Tm) (h:Hp) (kl:List Nat) (ks:List Int) (vs:List AV) (a:Act) (w:World):Prop where
 ex:∃(wb:World) (es:Array MapEntry) (clk:Nat) (M:Nat→Prop) (β:Nat→Option Nat) (cp:Nat→Nat) (u:Nat→Value),w=wb.alloc (.map es clk)∧HeapRel wb M β cp h∧(∀t,Rep wb M β cp (lk s t) (a.tmps.getD t undef))∧AK w0 M0 β0 cp0 h0 wb M β cp h kl∧
  a.tmps.getD d0 undef= .map (some wb.heap.size)∧es.size=ks.length∧vs.length=ks.length∧(∀(j:Nat) (k:Int),ks[j]? =some k→∃e,es[j]? =some e∧e.key= .int .i64 k∧e.val=u j)∧∀(j:Nat) (x:AV),vs[j]? =some x→Rep wb M β cp x (u j)
 nt:a.tmps.size=nt
 df:a.defers=[]
theorem MapSt.done {d0:Nat}{ks:List Int}{vs:List AV}{a:Act}{w:World}(hs:MapSt w0 M0 β0 cp0 h0 nt d0 s h kl ks vs a w):St w0 M0 β0 cp0 h0 nt ((d0,.fm ks vs)::s) h kl a w:=by
 obtain⟨⟨wb,es,clk,M,β,cp,u,rfl,hh,ht,hak,hd,e1,e2,e3,e4⟩,hnt,hdf⟩:=hs
 have hsame:∀k,k<wb.heap.size→(wb.alloc (.map es clk)).heap[k]? =wb.heap[k]? :=fun k hk=>heap_alloc wb _ k hk
 have hsz:wb.heap.size≤(wb.alloc (.map es clk)).heap.size:=by show _≤(wb.heap.push _).size;simp
 obtain⟨g1,g2⟩:=hh.grow hsz hsame
 have hkeep:∀k,k<wb.heap.size→¬M k→(wb.alloc (.map es clk)).heap[k]? =wb.heap[k]? ∧¬M k:=fun k hk hM=>⟨hsame k hk,hM⟩
 have hre:∀x v,Rep wb M β cp x v→Rep (wb.alloc (.map es clk)) M β cp x v:=fun x v hr=>hr.keep hkeep fun _ _=>⟨rfl,rfl⟩
 have ha:AK wb M β cp h (wb.alloc (.map es clk)) M β cp h []:=⟨hkeep,fun _ _ _=>⟨rfl,rfl⟩,⟨rfl,rfl,rfl,hsz,fun k hk _=>hsame k hk,fun _ _ _ hk=>hk,fun _ hk=> .inl hk⟩,fun k hk=> .inl (g2 k hk)⟩
 refine⟨⟨M,β,cp,g1,qDX (fun t=>hre _ _ (ht t)) ?_,hak.trans ha⟩,hnt,hdf⟩
 rw[hd]
 exact .fm ks vs _ es clk u (fun hM=>Nat.lt_irrefl _ (hh.dom.1 _ hM)) (qAl wb _) e1 e2 e3 fun j x hj=>hre _ _ (e4 j x hj)
theorem qNH (wb:World) (x y:Obj):{wb.alloc x with heap:=(wb.alloc x).heap.setIfInBounds wb.heap.size y}=wb.alloc y:=by
 show({wb with heap:=(wb.heap.push x).setIfInBounds wb.heap.size y}:World)={wb with heap:=wb.heap.push y}
 congr 1
 apply Array.toList_inj.1
 simp[List.set_append]
theorem qGQ (hE:EnvOk P E) {ops:Array Oper}{K:Tm→Prop}{Q:Exit→Act→World→Prop}(hQ:∀s a w,K s→St w0 M0 β0 cp0 h0 nt s h kl a w→Q .normal a w) {d0:Nat}{t:TypeId}(hF:qXz P t):
  ∀(r:List Oper) (i:Nat),r=ops.toList.drop i→∀(s:Tm) (ks:List Int) (vs:List AV) (a:Act) (w:World),qSK E nt d0 t r s ks vs K→MapSt w0 M0 β0 cp0 h0 nt d0 s h kl ks vs a w→wpOps P ops Q (List.range' i r.length) a w
 |[],i,_,s,ks,vs,a,w,hv,hst=>by cases hv
 |o::r,i,hr,s,ks,vs,a,w,hv,hst=>by
  have hoi:ops[i]? =some o:=by
   have:(ops.toList.drop i)[0]? =some o:=by rw[←hr];rfl
   simpa[List.getElem?_drop]using this
  have hr':r=ops.toList.drop (i+1):=by
   rw[←List.tail_drop,←hr];rfl
  have ih:=qGQ (d0:=d0) hE hQ hF r (i+1) hr'
  have hst0:=hst
  obtain⟨⟨wb,es,clk,M,β,cp,u,rfl,hh,ht,hak,hd,e1,e2,e3,e4⟩,hnt,hdf⟩:=hst
  have hx:∀x,Rep wb M β cp (ev s x) (a.eval x):=fun x=>qGG ht x
  have val:∀(v:AV) (v':Value) (s':Tm),o.guard=none→put nt o.dst v s=some s'→qSD o.dst [d0]=false→Rep wb M β cp v v'→(execOp a.eval o).run P (wb.alloc (.map es clk))= .ok (.value v') (wb.alloc (.map es clk))→qSK E nt d0 t r s' ks vs K→
    (if Region.wanted o (yielded ops a.tmps)=true then o.wp P a (wb.alloc (.map es clk)) (wpOps P ops Q (List.range' (i+1) r.length)) Q∨(o.asks P a (wb.alloc (.map es clk))∧LetsOut Q)else wpOps P ops Q (List.range' (i+1) r.length) (a.put o.dst undef) (wb.alloc (.map es clk))):=by
   intro v v' s' hg qBe hm hrep hrun hk
   rw[if_pos (by simp[Region.wanted,hg])]
   refine .inl ?_
   unfold Oper.wp
   rw[hrun]
   obtain⟨p1,p2,p3⟩:=qCj qBe hnt ht hrep
   refine ih s' ks vs _ _ hk ⟨⟨wb,es,clk,M,β,cp,u,rfl,hh,p1,hak, ?_,e1,e2,e3,e4⟩,p2,p3.trans hdf⟩
   cases hds:o.dst with
   |none=>exact hd
   |some d=>
    rw[hds]at hm
    have hne:d≠d0:=fun e=>by subst e;simp[qSD,qC.2 rfl]at hm
    show(a.tmps.setIfInBounds d v').getD d0 undef=_
    rw[←hd]
    simp[Array.getD_eq_getD_getElem?,Array.getElem?_setIfInBounds,hne]
  simp only[List.length_cons,List.range'_succ,wpOps,hoi]
  unfold qSK at hv
  split at hv
  ·rename_i x hg ho
   split at hv
   ·have:=qGP (P:=P) (ops:=ops) hQ (o::r) i hr _ a _ hv hst0.done
    simpa only[List.length_cons,List.range'_succ,wpOps,hoi]using this
   ·split at hv
    ·rename_i s' qBe hm
     exact val _ _ s' hg qBe hm (hx (.tmp x)) (by simp[execOp,ho]) hv
    ·cases hv
  ·rename_i f first caps hg ho
   split at hv
   ·rename_i s' hcs hb qBe hm
    have hc':caps= #[]:=Array.toList_inj.1 hcs
    refine val _ (fnV f (first.map a.eval)) s' hg qBe hm ?_ (by rw[fnV,hE.bd,hb];simp[execOp,ho,Instr.makeFunc,hc']) hv
    refine .fn f _ _ (by simp) fun j x hj=> ?_
    simp only[List.getElem?_map,Option.map_eq_some_iff]at hj
    obtain⟨y,hy,rfl⟩:=hj
    have:(first.map a.eval).toList[j]? =some (a.eval y):=by rw[Array.toList_map,List.getElem?_map,hy];rfl
    rw[qG,List.getD_eq_getElem?_getD,this]
    exact hx y
   ·cases hv
  ·rename_i t' x k y hg ho
   split at hv
   ·rename_i q1 q2 q3 hds
    have q1:=qC.1 q1
    have q2:=qC.1 q2
    subst q1 q2
    obtain⟨kt,et,f1,f2,f3⟩:=hF
    have hxv:a.eval (.tmp x)= .map (some wb.heap.size):=hd
    have hgo:(getObj wb.heap.size).run P (wb.alloc (.map es clk))= .ok (.map es clk) (wb.alloc (.map es clk)):=(fun(wA:World) (h:wA.heap[wb.heap.size]? =some (.map es clk))=>(by simp[getObj,Sem.run,h]:(getObj wb.heap.size).run P wA= .ok (.map es clk) wA)) _ (qAl wb _)
    have hik:MapKept.IsKey (.int .i64) (.int .i64 k):=rfl
    have hck:(Instr.checkKey false 10000 kt (.int .i64 k)).run P (wb.alloc (.map es clk))= .ok () (wb.alloc (.map es clk)):=MapKept.run_checkKey f2 hik _ 9999
    obtain⟨r0,r1,r2,r3⟩:=qKh (w:=wb) (M:=M) (β:=β) (cp:=cp) (k:=fun _=>k) rfl es.toList ks vs u 0 (by simpa using e1) e2 (fun j k hj=>by
     obtain⟨e,q1,q2,q3⟩:=e3 j k hj
     exact⟨e,by simpa using q1,q2,q3⟩) e4
    rw[qNG q3]at r2
    have hr0:r0=none:=by cases r0 with|none=>rfl|some p=>simp at r2
    subst hr0
    have hfk:(Instr.findKey kt (.int .i64 k) es.toList).run P (wb.alloc (.map es clk))= .ok none (wb.alloc (.map es clk)):=by
     simp[Instr.findKey,run_underlying f2,r1]
    have hso:=MapKept.run_setObj_map (P:=P) (.map (es.push {key:= .int .i64 k,val:=a.eval (.tmp y),born:=clk}) (clk+1)) (qAl wb (.map es clk))
    rw[qNH]at hso
    have hrun:(execOp a.eval o).run P (wb.alloc (.map es clk))= .ok .skip (wb.alloc (.map (es.push {key:= .int .i64 k,val:=a.eval (.tmp y),born:=clk}) (clk+1))):=by
     have hkv:a.eval (.const (.int .i64 k))= .int .i64 k:=rfl
     simp[execOp,ho,Instr.mapUpdate,run_underlying f1,hxv,hkv,hgo,hck,hfk,hso]
    rw[if_pos (by simp[Region.wanted,hg])]
    refine .inl ?_
    unfold Oper.wp
    rw[hrun]
    show wpOps P ops Q (List.range' (i+1) r.length) (a.put o.dst undef) _
    rw[hds]
    refine ih s _ _ a _ hv ⟨⟨wb,_,_,M,β,cp,fun j=>if j=ks.length then a.eval (.tmp y)else u j,rfl,hh,ht,hak,hd,by simp[e1],by simp[e2],fun j k' hj=> ?_,fun j z hj=> ?_⟩,hnt,hdf⟩
    ·by_cases hjl:j=ks.length
     ·subst hjl
      have hk':k=k':=by simpa using hj
      subst hk'
      exact⟨{key:= .int .i64 k,val:=a.eval (.tmp y),born:=clk},by rw[←e1];simp,rfl,by simp⟩
     ·have hlt:j<ks.length:=by have:=(List.getElem?_eq_some_iff.1 hj).1;simp at this;omega
      rw[List.getElem?_append_left hlt]at hj
      obtain⟨e,q1,q2,q3⟩:=e3 j k' hj
      refine⟨e, ?_,q2,by simpa[hjl]using q3⟩
      rw[Array.getElem?_push,if_neg (by omega)];exact q1
    ·by_cases hjl:j=ks.length
     ·subst hjl
      rw[←e2]at hj
      have hz:lk s y=z:=by simpa using hj
      subst hz
      dsimp only
      rw[if_pos rfl]
      exact hx (.tmp y)
     ·have hlt:j<vs.length:=by have:=(List.getElem?_eq_some_iff.1 hj).1;simp at this;omega
      rw[List.getElem?_append_left hlt]at hj
      simpa[hjl]using e4 j z hj
   ·cases hv
  ·cases hv
theorem qMx (hE:EnvOk P E) {ops:Array Oper}{K:Tm→Prop}{Q:Exit→Act→World→Prop}(hQ:∀s a w,K s→St w0 M0 β0 cp0 h0 nt s h kl a w→Q .normal a w) {s:Tm}{a:Act}{w:World}
  (hv:qXX E nt ops.toList s K) (hst:St w0 M0 β0 cp0 h0 nt s h kl a w):wpOps P ops Q (List.range' 0 ops.size) a w:=by
 unfold qXX at hv
 split at hv
 ·rename_i o r hops
  split at hv
  ·rename_i t d0 hg ho hds
   split at hv
   ·rename_i hf hlt
    have hlt:=qQ.1 hlt
    obtain⟨⟨M,β,cp,hh,ht,hak⟩,hnt,hdf⟩:=hst
    have hoi:ops[0]? =some o:=by rw[←Array.getElem?_toList,hops];rfl
    have hsz:ops.size=r.length+1:=by rw[←Array.length_toList,hops];rfl
    rw[hsz]
    simp only[List.range'_succ,wpOps,hoi]
    rw[if_pos (by simp[Region.wanted,hg])]
    refine .inl ?_
    have hrun:(execOp a.eval o).run P w= .ok (.value (.map (some w.heap.size))) (w.alloc (.map #[] 0)):=by simp[execOp,ho,Instr.makeMap,run_newObj]
    unfold Oper.wp
    rw[hrun]
    show wpOps P ops Q (List.range' (0+1) r.length) (a.put o.dst (.map (some w.heap.size))) _
    obtain⟨p1,p2,p3⟩:=qCj (d:=some d0) (v:= .any) (v':= .map (some w.heap.size)) (s':=(d0,.any)::s) (by simp[put,qQ.2 hlt]) hnt ht (.c (.any _))
    rw[hds]
    refine qGQ hE hQ (hE.fm t hf) r 1 (by rw[hops];rfl) _ [] [] _ _ hv ⟨⟨w, #[],0,M,β,cp,fun _=>undef,rfl,hh,p1,hak, ?_,rfl,rfl,fun j k hj=>by simp at hj,fun j x hj=>by simp at hj⟩,p2,p3.trans hdf⟩
    show(a.tmps.setIfInBounds d0 _).getD d0 undef=_
    simp[Array.getD_eq_getD_getElem?,hnt,hlt]
   ·cases hv
  ·cases hv
 ·cases hv
theorem qF4 {w:World}{M:Nat→Prop}{β:Nat→Option Nat}{cp:Nat→Nat}{p q:Th Prop}:∀(X:AV) (v:Value),Rep w M β cp X v→qPW X p q→∃b:Bool,v= .bool b∧(match b with|true=>p ()|false=>q ())
 | .bc true,v,hr,hv=>⟨true,qAN hr,hv⟩
 | .bc false,v,hr,hv=>⟨false,qAN hr,hv⟩
 | .b x,v,hr,hv=>by
   cases hv with
   |mk h1 h2=>
    cases h1 with
    |mk h1=>
     cases h2 with
     |mk h2=>
      refine⟨x (),qBU hr, ?_⟩
      cases hb:x ()with
      |true=>exact(h1 hb).out
      |false=>exact(h2 hb).out
 | .ite c x y,v,hr,hv=>by
   have key:(c ()=true→Rep w M β cp x v)∧(c ()=false→Rep w M β cp y v):=by
    cases hr with
    |c h=>cases h with|ite _ _ _ _ h1 h2=>exact⟨fun h=> .c (h1 h),fun h=> .c (h2 h)⟩
    |ite _ _ _ _ h1 h2=>exact⟨h1,h2⟩
   cases hv with
   |mk h1 h2=>
    cases h1 with
    |mk h1=>
     cases h2 with
     |mk h2=>
      cases hb:c ()with
      |true=>exact qF4 x v (key.1 hb) (h1 hb).out
      |false=>exact qF4 y v (key.2 hb) (h2 hb).out
 | .any,_,_,hv=>by cases hv
 | .i _ _,_,_,hv=>by cases hv
 | .s _,_,_,hv=>by cases hv
 | .nil,_,_,hv=>by cases hv
 | .con _,_,_,hv=>by cases hv
 | .agg _,_,_,hv=>by cases hv
 | .tup _,_,_,hv=>by cases hv
 | .ptr _ _,_,_,hv=>by cases hv
 | .mr _,_,_,hv=>by cases hv
 | .ept _ _ _ _,_,_,hv=>by cases hv
 | .vw _ _ _ _,_,_,hv=>by cases hv
 | .nn _ _,_,_,hv=>by cases hv
 | .own _ _,_,_,hv=>by cases hv
 | .sl _ _ _,_,_,hv=>by cases hv
 | .rp _,_,_,hv=>by cases hv
 | .fn _ _,_,_,hv=>by cases hv
 | .fm _ _,_,_,hv=>by cases hv
 | .ifc _ _,_,_,hv=>by cases hv
theorem qAX (hE:EnvOk P E) (hZ:Zl E) (hC:qY P con) {drw:Drw}(hD:qED P drw) (hb:∀b,h0.length≤b→β0 b=none) {nh:Nat}(hnh:h0.length≤nh) {keep:List Nat}:∀(c:Code) (s:Tm) (h:Hp) (kl:List Nat) (a:Act) (w:World) (K:KEx) (Q:Exit→Act→World→Prop),
  vc E con drw nh nt keep c s h kl K→St w0 M0 β0 cp0 h0 nt s h kl a w→(∀e s h kl a w,K e s h kl→St w0 M0 β0 cp0 h0 nt s h kl a w→Q e.to a w)→c.wp P Q a w
 | .skip,s,h,kl,a,w,K,Q,hv,hs,hQ=>wp_skip (hQ .nrm s h kl a w hv hs)
 | .region id ops false,s,h,kl,a,w,K,Q,hv,hs,hQ=>by
   refine wp_region ?_
   unfold vc at hv
   split at hv
   ·have:=qMx (P:=P) hE (ops:=ops) (K:=fun s=>K .nrm (prune keep s) h kl) (Q:=Q) (fun s a w hK hst=>hQ .nrm _ h kl a w hK hst.prune) hv hs
    rw[List.range_eq_range']
    simpa using this
   have:=qF2 (P:=P) hE hZ hC (ops:=ops) (K:=fun s h kl=>K .nrm (prune keep s) h kl) (Q:=Q) (fun s h kl a w hK hst=>hQ .nrm _ h kl a w hK hst.prune) ops.toList 0 rfl s h kl a w hv hs
   rw[List.range_eq_range']
   simpa using this
 | .region id ops true,s,h,kl,a,w,K,Q,hv,hs,hQ=>hD _ _ _ _ _ _ id ops s h kl a w _ Q hv hs fun s h kl a w hK hst=>hQ .nrm _ h kl a w hK hst.prune
 | .seq p q,s,h,kl,a,w,K,Q,hv,hs,hQ=>by
   refine wp_seq (qAX hE hZ hC hD hb hnh p s h kl a w _ _ hv hs fun e s1 h1 kl1 a1 w1 hK hst=> ?_)
   cases e with
   |nrm=>exact qAX hE hZ hC hD hb hnh q s1 h1 kl1 a1 w1 K Q hK hst hQ
   |exit i=>exact hQ (.exit i) s1 h1 kl1 a1 w1 hK hst
   |ret=>exact hQ .ret s1 h1 kl1 a1 w1 hK hst
   |jmp l=>exact hQ (.jmp l) s1 h1 kl1 a1 w1 hK hst
 | .cond c p q,s,h,kl,a,w,K,Q,hv,hs,hQ=>by
   have hx:∃M β cp,Rep w M β cp (ev s c) (a.eval c):=by
    obtain⟨⟨M,β,cp,hh,ht,hak⟩,hn,hd⟩:=hs
    exact⟨M,β,cp,qGG ht c⟩
   obtain⟨M,β,cp,hx⟩:=hx
   unfold vc at hv
   obtain⟨b,hb1,hb2⟩:=qF4 _ _ hx hv
   cases b with
   |true=>exact wp_cond_true hb1 (qAX hE hZ hC hD hb hnh p s h kl a w K Q hb2 hs hQ)
   |false=>exact wp_cond_false hb1 (qAX hE hZ hC hD hb hnh q s h kl a w K Q hb2 hs hQ)
 | .block id c,s,h,kl,a,w,K,Q,hv,hs,hQ=>by
   refine wp_block (qAX hE hZ hC hD hb hnh c s h kl a w _ _ hv hs fun e s1 h1 kl1 a1 w1 hK hst=> ?_)
   cases e with
   |nrm=>exact hQ .nrm s1 h1 kl1 a1 w1 hK hst
   |exit i=>
    simp only[Ex.to,Exit.inBlock]
    dsimp only at hK
    split at hK
    ·rename_i q
     rw[if_pos (qC.1 q)]
     exact hQ .nrm s1 h1 kl1 a1 w1 hK hst
    ·rename_i q
     rw[if_neg fun e=>by rw[qC.2 e]at q;cases q]
     exact hQ (.exit i) s1 h1 kl1 a1 w1 hK hst
   |ret=>exact hQ .ret s1 h1 kl1 a1 w1 hK hst
   |jmp l=>exact hQ (.jmp l) s1 h1 kl1 a1 w1 hK hst
 | .loop c,s,h,kl,a,w,K,Q,hv,hs,hQ=>by
   unfold vc at hv
   obtain⟨h,hv,hs⟩:∃h',LoopI (fun h K=>qMq E (len h) h K) nh (fun s h kl K=>vc E con drw nh nt keep c s h kl K) s h' kl K∧St w0 M0 β0 cp0 h0 nt s h' kl a w:=by
    cases hv with
    |now hv=>exact⟨h,hv,hs⟩
    |cls hv=>exact hs.cls hE hv
   cases hv with
   |mkC X I J kL μ x0 hk h00 h1 h2 h3=>
    have hJ:∀x,h0.length≤(J x).length:=fun x=>by have:=qAO.1 (h00 x);rw[qK]at this;omega
    refine wp_loop_ghost (fun n a w=>∃x,μ x=n∧St w0 M0 β0 cp0 h0 nt (I x) (J x) kL a w) (μ x0) ⟨x0,rfl,(hs.mono hk).le hb (hJ x0) h1 h2⟩ ?_
    rintro n a1 w1 ⟨x,rfl,hst⟩
    refine qAX hE hZ hC hD hb hnh c (I x) (J x) kL a1 w1 _ _ (h3 x) hst fun e s2 h2 kl2 a2 w2 hK hst2=> ?_
    cases e with
    |nrm=>
     obtain⟨h2,⟨y,y1,y2,y3,y4⟩,hst2⟩:=hst2.cls hE hK
     exact⟨μ y,y4,y,rfl,(hst2.mono y3).le hb (hJ y) y1 y2⟩
    |exit i=>exact hQ (.exit i) s2 h2 kl2 a2 w2 hK hst2
    |ret=>exact hQ .ret s2 h2 kl2 a2 w2 hK hst2
    |jmp l=>exact hQ (.jmp l) s2 h2 kl2 a2 w2 hK hst2
   |mk X I J kL μ x0 hk h00 h1 h2 h3=>
    have hJ:∀x,h0.length≤(J x).length:=fun x=>by have:=qAO.1 (h00 x);rw[qK]at this;omega
    refine wp_loop_ghost (fun n a w=>∃x,μ x=n∧St w0 M0 β0 cp0 h0 nt (I x) (J x) kL a w) (μ x0) ⟨x0,rfl,(hs.mono hk).le hb (hJ x0) h1 h2⟩ ?_
    rintro n a1 w1 ⟨x,rfl,hst⟩
    refine qAX hE hZ hC hD hb hnh c (I x) (J x) kL a1 w1 _ _ (h3 x) hst fun e s2 h2 kl2 a2 w2 hK hst2=> ?_
    cases e with
    |nrm=>
     obtain⟨y,y1,y2,y3,y4⟩:=hK
     exact⟨μ y,y4,y,rfl,(hst2.mono y3).le hb (hJ y) y1 y2⟩
    |exit i=>exact hQ (.exit i) s2 h2 kl2 a2 w2 hK hst2
    |ret=>exact hQ .ret s2 h2 kl2 a2 w2 hK hst2
    |jmp l=>exact hQ (.jmp l) s2 h2 kl2 a2 w2 hK hst2
   |mkR hn X I J μ x0 h1 h2 h3=>
    have h00:h0.length=0:=by omega
    refine wp_loop_ghost (fun n a w=>∃x,μ x=n∧∃kl,St w0 M0 β0 cp0 h0 nt (I x) (J x) kl a w) (μ x0) ⟨x0,rfl,_,hs.le hb (by omega) h1 h2⟩ ?_
    rintro n a1 w1 ⟨x,rfl,kl1,hst⟩
    have hst:St w0 M0 β0 cp0 h0 nt (I x) (J x) [] a1 w1:=by
     obtain⟨⟨M,β,cp,hh,ht,hak⟩,hn,hd⟩:=hst
     exact⟨⟨M,β,cp,hh,ht,⟨hak.keep,fun b _ hb0=>absurd (hb b (by omega)) hb0,hak.ext,hak.own⟩⟩,hn,hd⟩
    refine qAX hE hZ hC hD hb hnh c (I x) (J x) [] a1 w1 _ _ (h3 x) hst fun e s2 h2 kl2 a2 w2 hK hst2=> ?_
    cases e with
    |nrm=>
     obtain⟨y,as,y1,y2,y3,y4,y5⟩:=hK
     rw[qK]at y2
     exact⟨μ y,y5,y,rfl,[],hst2.ren hb h00 y1 y2 y3 y4⟩
    |exit i=>exact hQ (.exit i) s2 h2 kl2 a2 w2 hK hst2
    |ret=>exact hQ .ret s2 h2 kl2 a2 w2 hK hst2
    |jmp l=>exact hQ (.jmp l) s2 h2 kl2 a2 w2 hK hst2
   |un n hv=>
    refine wp_loop_ghost (fun n a w=>∃s h kl,qUJ (fun s h kl K=>vc E con drw nh nt keep c s h kl K) K n s h kl∧St w0 M0 β0 cp0 h0 nt s h kl a w) n ⟨s,h,kl,hv,hs⟩ ?_
    rintro n a1 w1 ⟨s1,h1,kl1,hv1,hst⟩
    cases n with
    |zero=>cases hv1
    |succ n=>
     unfold qUJ at hv1
     refine qAX hE hZ hC hD hb hnh c s1 h1 kl1 a1 w1 _ _ hv1 hst fun e s2 h2 kl2 a2 w2 hK hst2=> ?_
     cases e with
     |nrm=>exact⟨n,Nat.lt_succ_self n,s2,h2,kl2,hK,hst2⟩
     |exit i=>exact hQ (.exit i) s2 h2 kl2 a2 w2 hK hst2
     |ret=>exact hQ .ret s2 h2 kl2 a2 w2 hK hst2
     |jmp l=>exact hQ (.jmp l) s2 h2 kl2 a2 w2 hK hst2
 | .exit i,s,h,kl,a,w,K,Q,hv,hs,hQ=>wp_exit (hQ (.exit i) s h kl a w hv hs)
 | .ret,s,h,kl,a,w,K,Q,hv,hs,hQ=>wp_ret (hQ .ret s h kl a w hv hs)
 | .rangeFunc ..,s,h,kl,a,w,K,Q,hv,hs,hQ=>by cases hv
 | .scope _,s,h,kl,a,w,K,Q,hv,hs,hQ=>by cases hv
 | .label _,s,h,kl,a,w,K,Q,hv,hs,hQ=>wp_label (hQ .nrm s h kl a w hv hs)
 | .goto l,s,h,kl,a,w,K,Q,hv,hs,hQ=>wp_goto (hQ (.jmp l) s h kl a w hv hs)
 | .refuse _,s,h,kl,a,w,K,Q,hv,hs,hQ=>by cases hv
theorem qKi (hE:EnvOk P E) (hh:HeapRel w M β cp h) (ht:∀t,Rep w M β cp (lk s t) (a.tmps.getD t undef)) {r:ResultVar}{v:AV}(hr:qPX E s h r=some v):
  ∃v',(match r with| .tmp t=>pure (a.tmps.getD t undef)| .cell p t=>do loadVar t (←asAddr (a.tmps.getD p undef)):Sem Value).run P w= .ok v' w∧Rep w M β cp v v':=by
 cases r with
 |tmp t=>simp only[qPX,Option.some.injEq]at hr;subst hr;exact⟨_,rfl,ht t⟩
 |cell p t=>
  simp only[qPX]at hr
  split at hr
  ·rename_i v0 hl
   cases hr
   have hs:=qLb (P:=P) (hE.ty t) hh (ht p)
   rw[hl]at hs
   obtain⟨_,ad,v',he,hl,hr⟩:=hs
   exact⟨v',by simp[he,asAddr,hl],hr⟩
  ·cases hr
theorem qE9 (hE:EnvOk P E) (hh:HeapRel w M β cp h) (ht:∀t,Rep w M β cp (lk s t) (a.tmps.getD t undef)):∀(rs:List ResultVar) (vs:List AV),qGJ E s h rs=some vs→
  ∃xs:List Value,(rs.mapM fun r=>(match r with| .tmp t=>pure (a.tmps.getD t undef)| .cell p t=>do loadVar t (←asAddr (a.tmps.getD p undef)):Sem Value)).run P w= .ok xs w∧qAs w M β cp vs xs
 |[],vs,hr=>by simp only[qGJ,Option.some.injEq]at hr;subst hr;exact⟨[],by simp,rfl,fun j x hj=>by simp at hj⟩
 |r::rs,vs,hr=>by
  simp only[qGJ]at hr
  split at hr
  ·rename_i v vs' h1 h2
   cases hr
   obtain⟨x,r1,r2⟩:=qKi (P:=P) hE hh ht h1
   obtain⟨xs,r3,r4⟩:=qE9 hE hh ht rs vs' h2
   refine⟨x::xs, ?_,by have:=r4.1;simp;omega,fun j y hj=> ?_⟩
   ·rw[List.mapM_cons,Sem.run_bind,r1,Result.andThen_ok,Sem.run_bind,r3]
    rfl
   ·cases j with
    |zero=>simp at hj;subst hj;simpa using r2
    |succ j=>have:=r4.2 j y (by simpa using hj);simpa using this
  ·cases hr
theorem qF5 (hE:EnvOk P E) {cl:Bool}{K:Hp→Prop}(hv:qSN E cl h K) (hh:HeapRel w M β cp h):∃h',K h'∧HeapRel w M β cp h'∧∀k,qAL w β h' k→qAL w β h k:=by
 cases cl with
 |true=>
  obtain⟨h',c1,c2,_,c4⟩:=qDA hE.fr _ h _ hv hh
  exact⟨h',c1,c2,c4⟩
 |false=>exact⟨h,hv,hh,fun _ h=>h⟩
theorem qDZ (hE:EnvOk P E) {fn:Func}(hh:HeapRel w M β cp h) (ht:∀t,Rep w M β cp (lk s t) (a.tmps.getD t undef)) {K:qBm}{cl:Bool}(hv:qPY E cl fn.results.toList s h kl K):
  ∃v r h',(results fn a.tmps).run P w= .ok v w∧K r h' kl∧Rep w M β cp r v∧HeapRel w M β cp h'∧∀k,qAL w β h' k→qAL w β h k:=by
 unfold qPY at hv
 have key:∀vs,qGJ E s h fn.results.toList=some vs→∃xs:List Value,(results fn a.tmps).run P w= .ok (if h:xs.toArray.size=1 then xs.toArray[0]else .tuple xs.toArray) w∧qAs w M β cp vs xs:=by
  intro vs hvs
  obtain⟨xs,r1,r2⟩:=qE9 (P:=P) hE hh ht _ vs hvs
  refine⟨xs, ?_,r2⟩
  unfold results
  rw[Array.mapM_eq_mapM_toList,Sem.run_bind,Sem.run_map]
  exact Eq.trans (congrArg (a₂:=Result.ok xs w) (fun r:Result (List Value)=>(r.andThen fun l w'=>Result.ok l.toArray w').andThen _) r1) rfl
 split at hv
 ·rename_i v hvs
  obtain⟨xs,r1,r2⟩:=key _ hvs
  match xs,r2 with
  |[x],r2=>
   obtain⟨h',c1,c2,c4⟩:=qF5 hE hv hh
   exact⟨x,v,h',by simpa using r1,c1,by have:=r2.2 0 v rfl;simpa using this,c2,c4⟩
  |[],r2=>exact absurd r2.1 (by simp)
  |_::_::_,r2=>exact absurd r2.1 (by simp)
 ·rename_i vs hn hvs
  obtain⟨xs,r1,r2⟩:=key _ hvs
  have hne:¬xs.toArray.size=1:=by
   intro h1
   have h2:=r2.1
   simp only[List.size_toArray]at h1
   match vs,hn,h2 with
   |[v],hn,_=>exact hn v rfl
   |[],_,h2=>simp at h2;simp[h2]at h1
   |_::_::_,_,h2=>simp at h2;omega
  rw[dif_neg hne]at r1
  obtain⟨h',c1,c2,c4⟩:=qF5 hE hv hh
  exact⟨_,.tup vs,h',r1,c1,.tup vs _ (by simpa using r2.1) fun j x hj=>(by rw[qBh];exact r2.2 j x hj),c2,c4⟩
 ·cases hv
theorem qHC:∀(A:List AV) (n t:Nat),lk (qIW n A) t=if n≤t then A.getD (t-n) .any else .any
 |[],n,t=>by simp[qIW,lk]
 |x::A,n,t=>by
  simp only[qIW,lk]
  split
  ·rename_i q;have q:=qC.1 q;subst q;simp
  ·rename_i q
   have q:n≠t:=fun e=>by rw[qC.2 e]at q;cases q
   rw[qHC A (n+1) t]
   by_cases h1:n≤t
   ·rw[if_pos h1,if_pos (by omega),show t-n=(t-(n+1))+1 by omega]
    simp
   ·rw[if_neg h1,if_neg (by omega)]
theorem qRL {cl:Bool}(hE:EnvOk P E) (hZ:Zl E) (hC:qY P con) {drw:Drw}(hD:qED P drw) {f:FuncId}{fn:Func}{c:Code}(hf:P.funcs[f]? =some fn) (hb:fn.body=some c) {keep:List Nat}{A:List AV}{H:Hp}{K:qBm}
  (hv:qPZ cl E con drw fn.ntmps keep fn.results.toList c A H K):qO P f A H K:=by
 intro w M β cp vs hh hA
 unfold qPZ at hv
 split at hv
 ·rename_i q
  have q:=qAO.1 q
  rw[qK]at q
  have hsz:vs.size=A.length:=by simpa using hA.1
  refine calls_of_wp hf hb (qAX (w0:=w) (M0:=M) (β0:=β) (cp0:=cp) (h0:=H) (nt:=fn.ntmps) hE hZ hC hD hh.out (by rw[qK];exact Nat.le_refl _) c (qIW 0 A) H [] _ w _ _ hv ⟨⟨M,β,cp,hh,fun t=> ?_,AK.refl⟩,by simp;omega,rfl⟩ ?_)
  ·rw[qHC,if_pos (Nat.zero_le _),Nat.sub_zero]
   by_cases ht:t<A.length
   ·have h1:A[t]? =some A[t]:=List.getElem?_eq_getElem ht
    have:=hA.2 t _ h1
    rw[List.getD_eq_getElem?_getD,h1]
    have e:(vs++Array.replicate (fn.ntmps-vs.size) undef).getD t undef=vs.toList.getD t undef:=by
     rw[Array.getD_eq_getD_getElem?,Array.getElem?_append_left (by omega),←Array.getD_eq_getD_getElem?,qG]
    rw[e]
    exact this
   ·rw[List.getD_eq_getElem?_getD,List.getElem?_eq_none (by omega)]
    exact .c (.any _)
  ·intro e s h kl a w' hK hst
   obtain⟨⟨M',β',cp',hh',ht',hak⟩,hn,hd⟩:=hst
   cases e with
   |exit i=>cases hK
   |jmp l=>cases hK
   |nrm=>
    obtain⟨v,r,h',h1,h2,h3,h4,h5⟩:=qDZ (P:=P) (fn:=fn) hE hh' ht' hK
    exact⟨hd,v,h1,v,r,h',kl,M',β',cp',rfl,h2,h4,⟨hak.keep,hak.bk,hak.ext,fun k hk=>hak.own k (h5 k hk)⟩,h3⟩
   |ret=>
    obtain⟨v,r,h',h1,h2,h3,h4,h5⟩:=qDZ (P:=P) (fn:=fn) hE hh' ht' hK
    exact⟨hd,v,h1,v,r,h',kl,M',β',cp',rfl,h2,h4,⟨hak.keep,hak.bk,hak.ext,fun k hk=>hak.own k (h5 k hk)⟩,h3⟩
 ·cases hv
end
theorem qAe {P:Program}{E:Env}{con:FuncId→Con}(hE:EnvOk P E) (hZ:Zl E) (hC:qY P con) {drw:Drw}(hD:qED P drw) {f:FuncId}{fn:Func}{c:Code}(hf:P.funcs[f]? =some fn) (hb:fn.body=some c) {keep:List Nat}{A:List AV}{H:Hp}{K:qBm}
 (hv:qYB E con drw fn.ntmps keep fn.results.toList c A H K):qO P f A H K:=qRL (cl:=true) hE hZ hC hD hf hb hv
end Go.Abs
namespace Go.Abs
open Go
variable [Kd]
end Go.Abs
