/- What is to be proved of a piece of code, by its text: definitions. -/
import Derived.Test.YtiaiifcgbjlfoaaGreatDoorAbsG1
import Derived.Maps.AppendAt
import Derived.Lib.AppendStr
import Derived.Deep.AppendSrc
set_option linter.all false
namespace Go.Abs
open Go
inductive Both (p q:Prop):Prop where|mk (h1:p) (h2:q)
inductive Imp (c:Th Prop) (p:Prop):Prop where|mk (h:c ()→p)
inductive Ob (c:Th Prop) (p:Prop):Prop where|mk (h1:c ()) (h2:p)
inductive Bad (n:Nat):Prop
inductive Chk (b:Th Bool) (p:Prop):Prop where|mk (h1:b ()=true) (h2:p)
inductive AllN (n:Th Nat) (p:Nat→Prop):Prop where|mk (h:∀i,i<n ()→p i)
inductive AllC (k:Th Nat) (p:Th Nat→Prop):Prop where|mk (h:∀c,k ()≤c→c≤9223372036854775807→p fun _=>c)
inductive Eq' {α:Type}(a b:Th α):Prop where|mk (h:a ()=b ())
def qCT:List Nat→Tm→Tm
 |[],s=>s
 |b::r,s=>qCT r (s.map fun p=>(p.1,p.2.kill b))
def AObj.kill (b:Nat):AObj→AObj
 | .blk cs=> .blk (qFD b cs)
 | .nst e sz n F op=> .nst e sz n F (opMap (qFD b) op)
 |o=>o
def qAz (b:Nat):Nat→Hp→Hp
 |_,[]=>[]
 |n,o::r=>(match Nat.beq n b with|true=>o|false=>o.kill b)::qAz b (n+1) r
abbrev qBm:=AV→Hp→List Nat→Prop
abbrev Con:=List AV→Hp→qBm→Prop
def qBB (sz:Nat) (c:Th Bool) (l m:List AV):List AV:=
 match sz with
 |0=>[]
 |n+1=>AV.pick c (nth .any l 0) (nth .any m 0)::qBB n c (qAI 1 l) (qAI 1 m)
def src (sz:Nat) (h:Hp):AV→Option (Th Prop×Th Nat×(Th Nat→List AV))
 | .sl sz' n f=>match Nat.beq sz sz' with|true=>some (fun _=>True,n,f)|false=>none
 | .own b n=>match nth .dead h b with
   | .vec _ sz' m f=>match Nat.beq sz sz' with|true=>some (fun _=>n ()≤m (),n,f)|false=>none
   |_=>none
 | .vw b sz'' p n=>match nth .dead h b with
   | .vec _ sz' m f=>match Nat.beq sz sz',Nat.beq sz sz'' with|true,true=>some (fun _=>p ()+n ()≤m (),n,fun k=>f fun _=>k ()+p ())|_,_=>none
   |_=>none
 | .nil=>some (fun _=>True,fun _=>0,fun _=>[])
 |_=>none
def qFP (E:Env) (c:Call) (s:Tm) (h:Hp):Option (Nat×Th Prop×Th Nat×AObj):=
 match c.argTypes.toList,c.args.toList with
 |[t,t'],[x,y]=>match ev s x,ev s y,Nat.beq t t',E.ty t with
  | .nn b n,.vw b' sz0 p m,true,.slice e sz _ _=>match nth .dead h b with
    | .vec e' sz' k f=>match Nat.beq b b',Nat.beq sz sz',Nat.beq sz sz0,Nat.beq e e' with
      |true,true,true,true=>some (b,fun _=>n ()+m ()≤k ()∧p ()+m ()≤k (),fun _=>n ()+m (),.vec e sz k fun j=>qBB sz (fun _=>decide (n ()≤j ()∧j ()<n ()+m ())) (f fun _=>j ()-n ()+p ()) (f j))
      |_,_,_,_=>none
    |_=>none
  |_,_,_,_=>none
 |_,_=>none
def qJ8 (E:Env) (o:Oper) (c:Call) (s:Tm) (h:Hp) (K:qBm):Prop:=
 match c.argTypes.toList,c.args.toList with
 |[t,t'],[x,y]=>match Nat.beq t t',E.ty t with
  |true,.slice e sz bytes _=>match src sz h (ev s y)with
   |some (q,m,g)=>match ev s x with
    | .own b n=>match nth .dead h b with
      | .vec e' sz' k f=>match Nat.beq e e',Nat.beq sz sz' with
        |true,true=>match E.fr e with
         |false=>Ob (fun _=>n ()≤k ()∧q ()∧(n ()+m ())*bytes≤140737488355328∧n ()+m ()≤9223372036854775807∧k ()≤n ())
          (K (.own b fun _=>n ()+m ()) (qAz b 0 (h.set b (.vec e sz (fun _=>n ()+m ()) fun j=>qBB sz (fun _=>decide (j ()<n ())) (f j) (g fun _=>j ()-n ())))) [b])
         |true=>Ob (fun _=>n ()≤k ()∧q ()∧(n ()+m ())*bytes≤140737488355328∧n ()+m ()≤9223372036854775807)
          (K (.own b fun _=>n ()+m ()) (qAz b 0 (h.set b (.vec e sz (fun _=>n ()+m ()) fun j=>qBB sz (fun _=>decide (j ()<n ())) (f j) (g fun _=>j ()-n ())))) [b])
        |_,_=>Bad 90
      |_=>Bad 91
    | .nil=>Ob (fun _=>q ()∧m ()*bytes≤140737488355328∧m ()≤9223372036854775807)
     (K (.own (len h) m) (h++[.vec e sz m g]) [])
    |_=>Bad 92
   |none=>Bad 93
  |false,.slice e sz bytes _=>match Nat.beq sz 1,Nat.beq bytes 1,E.ty t',ev s y with
   |true,true,.str,.s v=>match ev s x with
    | .own b n=>match nth .dead h b with
      | .vec e' sz' k f=>match Nat.beq e e',Nat.beq sz sz' with
        |true,true=>Ob (fun _=>n ()≤k ()∧n ()+(v ()).size≤140737488355328∧k ()≤n ())
         (K (.own b fun _=>n ()+(v ()).size) (qAz b 0 (h.set b (.vec e sz (fun _=>n ()+(v ()).size) fun j=>qBB sz (fun _=>decide (j ()<n ())) (f j) [.i .u8 fun _=>qBo (v ()) (j ()-n ():Nat)]))) [b])
        |_,_=>Bad 96
      |_=>Bad 96
    | .nil=>Ob (fun _=>(v ()).size≤140737488355328) (K (.own (len h) fun _=>(v ()).size) (h++[.vec e sz (fun _=>(v ()).size) fun j=>[.i .u8 fun _=>qBo (v ()) (j ():Nat)]]) [])
    |_=>Bad 96
   |_,_,_,_=>Bad 94
  |_,_=>Bad 94
 |_,_=>Bad 95
def qXT (T:Ty) (op:BinOp) (X Y:AV) (K:AV→Prop):Prop:=
 match T,Y with
 | .slice _ _ _ _,.nil=>match op with
   | .eql=>match X with
     | .nil=>K (.bc true)
     | .sl _ n _=>Both (Imp (fun _=>n ()=0) (K (.bc true))) (K (.bc false))
     | .own _ n=>Both (Imp (fun _=>n ()=0) (K (.bc true))) (K (.bc false))
     |_=>Bad 140
   | .neq=>match X with
     | .nil=>K (.bc false)
     | .sl _ n _=>Both (Imp (fun _=>n ()=0) (K (.bc false))) (K (.bc true))
     | .own _ n=>Both (Imp (fun _=>n ()=0) (K (.bc false))) (K (.bc true))
     |_=>Bad 141
   |_=>Bad 142
 |_,_=>Bad 143
inductive Stp (p:Th Prop):Prop where|mk (h:p ())
theorem Stp.out {p:Th Prop}(h:Stp p):p ():=by cases h with|mk h=>exact h
def qXU (ag:Bool) (sz:Nat) (cs:List AV):Option AV:=match ag with
 |true=>some (.agg (takeN sz cs))
 |false=>match cs with|x::_=>some x|[]=>none
def qXA (ag:Bool) (sz:Nat) (k:Th Int) (K:AV→Prop):Nat→Nat→List AV→Prop
 |0,_,_=>True
 |n+1,j,cs=>match qXU ag sz cs with
  |some v=>Both (Imp (fun _=>k ()=(j:Int)) (Stp fun _=>K v)) (qXA ag sz k K n (Nat.succ j) (qAI sz cs))
  |none=>Bad 150
mutual
def spl:AV→(AV→Prop)→Prop
 | .own b n,K=>Both (Imp (fun _=>n ()=0) (Stp fun _=>K .nil)) (Stp fun _=>K (.nn b n))
 | .agg l,K=>qXB l fun m=>K (.agg m)
 |v,K=>K v
def qXB:List AV→(List AV→Prop)→Prop
 |[],K=>K []
 |x::r,K=>spl x fun y=>qXB r fun m=>K (y::m)
end
def qNs (r:Option Arr) (X I:AV) (K:AV→Prop):Prop:=match r,X,I with
 |some r,.agg cs,.i _ k=>match Nat.beq (len cs) (r.n*r.sz)with
  |true=>Ob (fun _=>0≤k ()∧k ()<r.n) (qXA r.ag r.sz k K r.n 0 cs)
  |false=>Bad 151
 |_,_,_=>Bad 152
def qNt (E:Env) (c:Call) (s:Tm) (h:Hp) (K:qBm):Prop:=
 match c.argTypes.toList,c.args.toList with
 |[t],[x]=>match E.ty t with
  | .slice et tz _ _=>match ev s x with
    | .vw b sz p n=>match nth .dead h b with
      | .vec e sz' k f=>match Nat.beq sz sz',(Nat.beq sz tz&&Nat.beq et e)with
        |true,true=>Ob (fun _=>p ()+n ()=k ()) (K (.tup []) (h.set b (.vec e sz p f)) [])
        |_,_=>Bad 170
      |_=>Bad 171
    | .nil=>K (.tup []) h []
    |_=>Bad 172
  |_=>Bad 173
 |_,_=>Bad 174
def qXV (E:Env) (c:Call) (s:Tm) (h:Hp) (K:qBm):Prop:=
 match c.argTypes.toList,c.args.toList with
 |[t],[x]=>match E.ty t with
  | .slice et tz _ z=>match ev s x with
    | .nn b n=>match nth .dead h b with
      | .vec e sz k f=>match (Nat.beq sz tz&&Nat.beq et e&& !(E.fr e))with
        |true=>Ob (fun _=>k ()≤n ()) (AllC k fun c=>K (.i .i64 fun _=>(c ():Nat)) (h.set b (.vec e sz c fun j=>qBB sz (fun _=>decide (j ()<k ())) (f j) z)) [])
        |_=>Bad 200
      |_=>Bad 201
    | .nil=>K (.i .i64 fun _=>0) h []
    |_=>Bad 202
  |_=>Bad 203
 |_,_=>Bad 204
def qXC (sz:Nat):AV→Option (Nat×Th Nat×Th Nat)
 | .own b n=>some (b,fun _=>0,n)
 | .vw b sz' p n=>match Nat.beq sz sz' with|true=>some (b,p,n)|false=>none
 |_=>none
def qGI (E:Env) (c:Call) (s:Tm) (h:Hp):Res:=
 match c.argTypes.toList,c.args.toList with
 |[t,t'],[x,y]=>match Nat.beq t t',E.ty t with
  |true,.slice _ sz _ _=>match qXC sz (ev s x)with
   |some (b,p,n)=>match nth .dead h b with
    | .vec e sz' k f=>match src sz h (ev s y),Nat.beq sz sz' with
      |some (q,m,g),true=> .ob (fun _=>q ()∧p ()+n ()≤k ())
       (.i .i64 fun _=>(min (m ()) (n ()):Nat)) (.upd b (.vec e sz k fun j=>qBB sz (fun _=>decide (p ()≤j ()∧j ()<p ()+min (m ()) (n ()))) (g fun _=>j ()-p ()) (f j)))
      |_,_=> .bad 175
    |_=> .bad 176
   |_=> .bad 177
  |_,_=> .bad 178
 |_,_=> .bad 179
def qUG (E:Env) (c:Call) (s:Tm) (h:Hp) (K:qBm):Prop:=match qGI E c s h with
 | .ok v ch=>K v (ch.on (len h) h) []
 | .ob p v ch=>Ob p (K v (ch.on (len h) h) [])
 | .bad n=>Bad n
def qBL (b:Nat):List Nat→Bool
 |[]=>false
 |x::r=>match Nat.beq x b with|true=>true|false=>qBL b r
mutual
def qPS (nid:Nat):NC→(AV→List AObj→Nat→Prop)→Prop
 | .c x,K=>K x [] nid
 | .sl e sz n f,K=>K (.own nid n) [.vec e sz n f] (Nat.succ nid)
 | .pt l,K=>qUu (Nat.succ nid) l fun cs os m=>K (.ptr nid 0) (.blk cs::os) m
 | .ite c x y,K=>Both (Imp (fun _=>c ()=true) (Stp fun _=>qPS nid x K)) (Imp (fun _=>c ()=false) (Stp fun _=>qPS nid y K))
def qUu (nid:Nat):List NC→(List AV→List AObj→Nat→Prop)→Prop
 |[],K=>K [] [] nid
 |x::r,K=>qPS nid x fun v os m=>qUu m r fun vs os' m'=>K (v::vs) (os++os') m'
end
mutual
def qNu (c:Th Bool):NC→NC→NC
 | .c x,.c y=> .c (AV.pick c x y)
 | .sl e sz n f,.sl e' sz' m g=>match Nat.beq e e',Nat.beq sz sz' with
   |true,true=> .sl e sz (fun _=>bif c ()then n ()else m ()) fun i=>qBB sz c (f i) (g i)
   |_,_=> .ite c (.sl e sz n f) (.sl e' sz' m g)
 | .pt l,.pt m=>match Nat.beq (len l) (len m)with
   |true=> .pt (qAp c l m)
   |false=> .ite c (.pt l) (.pt m)
 |x,y=> .ite c x y
def qAp (c:Th Bool):List NC→List NC→List NC
 |x::l,y::m=>qNu c x y::qAp c l m
 |x::l,[]=>x::qAp c l []
 |[],_=>[]
end
def qSG (g:AV→Option (NC×List Nat×List (Th Prop))):List AV→Option (List NC×List Nat×List (Th Prop))
 |[]=>some ([],[],[])
 |x::r=>match g x,qSG g r with
  |some (y,ids,q),some (l,ids',q')=>some (y::l,ids++ids',q++q')
  |_,_=>none
def qXD (E:Env) (h:Hp) (b:Nat) (n:Th Nat):Option (NC×List Nat×List (Th Prop)):=match nth .dead h b with
 | .vec e sz m f=>match E.fr e with
   |true=>some (.sl e sz n f,[b],[fun _=>n ()≤m ()])
   |false=>some (.sl e sz n f,[b],[fun _=>n ()=m ()])
 |_=>none
def qUH (E:Env) (h:Hp):Nat→AV→Option (NC×List Nat×List (Th Prop))
 |0,_=>none
 |d+1,x=>match x with
  | .own b n=>qXD E h b n
  | .nn b n=>qXD E h b n
  | .ptr b o=>match Nat.beq o 0,nth .dead h b with
    |true,.blk l=>match qSG (qUH E h d) l with
     |some (l',ids,q)=>some (.pt l',b::ids,q)
     |none=>none
    |_,_=>none
  |x=>match closed x with
   |true=>some (.c x,[],[])
   |false=>none
def qAh:List Nat→Hp→Hp
 |[],h=>h
 |b::r,h=>qAh r (h.set b .dead)
def qIU:List Nat→Bool
 |[]=>true
 |b::r=>match qBL b r with|true=>false|false=>qIU r
def qXE:List (Th Prop)→Prop→Prop
 |[],p=>p
 |q::r,p=>Ob q (qXE r p)
def qPT (E:Env) (b:Nat) (h:Hp) (K:Hp→Prop):Prop:=match nth .dead h b with
 | .nst e sz n F (some (k,cs))=>match qSG (qUH E h 3) cs with
   |some (row,ids,q)=>match qIU (b::ids),Nat.beq (len row) sz with
    |true,true=>qXE q (K (qAh ids (h.set b (.nst e sz n (fun i=>qAp (fun _=>decide (i ()=k ())) row (F i)) none))))
    |_,_=>Bad 260
   |none=>Bad 261
 |_=>K h
def qMq (E:Env):Nat→Hp→(Hp→Prop)→Prop
 |0,h,K=>K h
 |b+1,h,K=>qPT E b h fun h=>qMq E b h K
def qPU (b:Nat) (i:Th Nat) (h:Hp) (K:Hp→Prop):Prop:=match nth .dead h b with
 | .nst e sz n F none=>Ob (fun _=>i ()<n ()) (qUu (len h) (F i) fun cs os _=>match Nat.beq (len cs) sz with
   |true=>K (h.set b (.nst e sz n F (some (i,cs)))++os)
   |false=>Bad 262)
 |_=>Bad 263
def qMr (E:Env) (b:Nat) (i:Th Nat) (h:Hp) (K:Hp→Prop):Prop:=match nth .dead h b with
 | .nst _ _ _ _ (some (k,_))=>Both (Imp (fun _=>i ()=k ()) (Stp fun _=>K h)) (Imp (fun _=>¬i ()=k ()) (Stp fun _=>qPT E b h fun h=>qPU b i h K))
 | .nst _ _ _ _ none=>qPU b i h K
 |_=>K h
def qSH (E:Env) (o:Oper) (s:Tm) (h:Hp) (K:Hp→Prop):Prop:=match o.op with
 | .load _ x=>match ev s x with
   | .ept b _ i _=>qMr E b i h K
   |_=>K h
 | .store _ x _=>match ev s x with
   | .ept b _ i _=>qMr E b i h K
   |_=>K h
 |_=>K h
def qHv (E:Env) (c:Call) (s:Tm) (h:Hp):Option (TypeId×Nat×Nat×Nat×Th Nat×List AV×AV):=
 match c.argTypes.toList,c.args.toList with
 |[t,t'],[x,y]=>match Nat.beq t t',E.ty t,ev s y with
  |true,.slice e sz bytes _,.own b m=>match nth .dead h b with
   | .blk cs=>some (e,sz,bytes,b,m,cs,ev s x)
   |_=>none
  |_,_,_=>none
 |_,_=>none
def qSI (E:Env) (e sz bytes b2:Nat) (m:Th Nat) (cs:List AV) (X:AV) (h:Hp) (K:qBm):Prop:=match qSG (qUH E h 3) cs with
 |some (row,ids,q)=>match Nat.beq (len row) sz,X with
  |true,.own b n=>match qIU (b::b2::ids),nth .dead h b with
   |true,.nst e' sz' k F none=>match Nat.beq e e',Nat.beq sz sz' with
    |true,true=>qXE q (Ob (fun _=>m ()=1∧n ()=k ()∧(n ()+1)*bytes≤140737488355328∧n ()+1≤9223372036854775807)
     (K (.own b fun _=>n ()+1) (qAz b 0 ((qAh (b2::ids) h).set b (.nst e sz (fun _=>n ()+1) (fun j=>qAp (fun _=>decide (n ()≤j ())) row (F j)) none))) [b]))
    |_,_=>Bad 270
   |_,_=>Bad 271
  |_,_=>Bad 272
 |none=>Bad 273
def splitB (b:Th Bool) (p q:Th Prop):Prop:=Both (Imp (fun _=>b ()=true) (Stp p)) (Imp (fun _=>b ()=false) (Stp q))
def okF (k:Th Int):List Int→Bool
 |[]=>false
 |c::r=>decide (k ()=c)||okF k r
def qSJ (k:Th Int):List Int→List AV→AV
 |c::r,x::l=> .ite (fun _=>decide (k ()=c)) x (qSJ k r l)
 |_,_=> .any
def qNv (b:Bool) (X I:AV) (K:AV→Prop):Prop:=match b,X,I with
 |true,.fm ks vs,.i .i64 k=>K (.tup [qSJ k ks vs,.b fun _=>okF k ks])
 |_,_,_=>Bad 280
def qLf (E:Env) (f:FuncId) (l A:List AV):List AV:=match E.bd f with
 |true=>l++A
 |false=>A++l
def qPV (E:Env) (con:FuncId→Con) (A:List AV) (h:Hp) (K:qBm) (n:Nat):AV→Prop
 | .fn f l=>con f (qLf E f l A) h K
 | .ite c x y=>splitB c (fun _=>qPV E con A h K n x) fun _=>qPV E con A h K n y
 |_=>Bad n
def qXW (E:Env) (con:FuncId→Con) (o:Oper) (s:Tm) (h:Hp) (K:qBm):Prop:=
 match step E o s h (len h)with
 | .ok v c=>K v (c.on (len h) h) []
 | .ob p v c=>Ob p (K v (c.on (len h) h) [])
 | .bad n=>match o.op with
   | .call c=>match c.callee with
     | .value (.func f)=>con f (c.args.toList.map (ev s)) h K
     | .value (.tmp t)=>qPV E con (c.args.toList.map (ev s)) h K n (lk s t)
     | .invoke r name=>match ev s r with
       | .ifc t x=>match E.mt t name with
         |some f=>con f (x::c.args.toList.map (ev s)) h K
         |none=>Bad n
       |_=>Bad n
     | .builtin .append=>match qFP E c s h with
       |some (b,q,n,O)=>Ob q (K (.nn b n) (h.set b O) [])
       |none=>match qHv E c s h with
        |some (e,sz,bytes,b2,m,cs,X)=>qSI E e sz bytes b2 m cs X h K
        |none=>qJ8 E o c s h K
     | .builtin .clear=>qNt E c s h K
     | .builtin .cap=>qXV E c s h K
     | .builtin .copy=>qUG E c s h K
     |_=>Bad n
   | .binOp op t x y _=>qXT (E.ty t) op (ev s x) (ev s y) fun v=>K v h []
   | .index t x i=>qNs (E.ar t) (ev s x) (ev s i) fun v=>spl v fun v=>K v h []
   | .lookup t x i ok=>match ok with
     |true=>qNv (E.fm t) (ev s x) (ev s i) fun v=>K v h []
     |false=>Bad n
   | .makeFunc (.func f) first caps=>match first.toList,caps.toList,E.bd f with
     |[],l,false=>K (.fn f (l.map (ev s))) h []
     |l,[],true=>K (.fn f (l.map (ev s))) h []
     |_,_,_=>Bad n
   |_=>Bad n
def qJ9 (E:Env) (con:FuncId→Con) (o:Oper) (s:Tm) (h:Hp) (K:qBm):Prop:=qSH E o s h fun h=>qXW E con o s h K
def put (nt:Nat) (d:Option Tmp) (v:AV) (s:Tm):Option Tm:=
 match d with
 |none=>some s
 |some d=>match Nat.blt d nt with
  |true=>some ((d,v)::s)
  |false=>none
def qHw (E:Env) (con:FuncId→Con) (nt:Nat) (all:List Oper):List Oper→Tm→Hp→List Nat→(Tm→Hp→List Nat→Prop)→Prop
 |[],s,h,kl,K=>K s h kl
 |o::r,s,h,kl,K=>
  let run (s:Tm):Prop:=qJ9 E con o s h fun v h' kl'=>match put nt o.dst v (qCT kl' s)with
   |some s'=>qHw E con nt all r s' h' (kl'++kl) K
   |none=>Bad 100
  let skip (s:Tm):Prop:=match put nt o.dst (.tup []) s with
   |some s'=>qHw E con nt all r s' h kl K
   |none=>Bad 101
  match o.guard with
  |none=>run s
  |some (j,b)=>match nth none (all.map (·.dst)) j with
   |none=>Bad 102
   |some d=>match lk s d with
    | .bc x=>match x,b with
      |true,true=>run s
      |false,false=>run s
      |_,_=>skip s
    | .b x=>match b with
      |true=>splitB x (fun _=>run ((d,.bc true)::s)) fun _=>skip ((d,.bc false)::s)
      |false=>splitB x (fun _=>skip ((d,.bc true)::s)) fun _=>run ((d,.bc false)::s)
    | .tup []=>skip s
    |_=>Bad 103
def qXF (k:Int):List Int→Bool
 |[]=>false
 |c::r=>match Int.decEq k c with
  |isTrue _=>true
  |isFalse _=>qXF k r
def qUv (nt:Nat):List Oper→Tm→(Tm→Prop)→Prop
 |[],s,K=>K s
 |o::r,s,K=>match o.guard,o.op with
  |none,.move x=>match put nt o.dst (ev s x) s with
   |some s'=>qUv nt r s' K
   |none=>Bad 281
  |none,.assign x=>match put nt o.dst (ev s x) s with
   |some s'=>qUv nt r s' K
   |none=>Bad 282
  |_,_=>Bad 283
def qSK (E:Env) (nt d0:Nat) (t:TypeId):List Oper→Tm→List Int→List AV→(Tm→Prop)→Prop
 |[],_,_,_,_=>Bad 284
 |o::r,s,ks,vs,K=>match o.guard,o.op with
  |none,.move (.tmp x)=>match Nat.beq x d0 with
   |true=>qUv nt (o::r) ((d0,.fm ks vs)::s) K
   |false=>match put nt o.dst (lk s x) s,qSD o.dst [d0]with
    |some s',false=>qSK E nt d0 t r s' ks vs K
    |_,_=>Bad 285
  |none,.makeFunc (.func f) first caps=>match caps.toList,E.bd f,put nt o.dst (.fn f (first.toList.map (ev s))) s,qSD o.dst [d0]with
   |[],true,some s',false=>qSK E nt d0 t r s' ks vs K
   |_,_,_,_=>Bad 286
  |none,.insert t' (.tmp x) (.const (.int .i64 k)) (.tmp y)=>match Nat.beq t' t,Nat.beq x d0,qXF k ks,o.dst with
   |true,true,false,none=>qSK E nt d0 t r s (ks++[k]) (vs++[lk s y]) K
   |_,_,_,_=>Bad 287
  |_,_=>Bad 288
def qUI (E:Env):List Oper→Bool
 |o::_=>match o.op with
  | .makeMap t _=>E.fm t
  |_=>false
 |[]=>false
def qXX (E:Env) (nt:Nat) (ops:List Oper) (s:Tm) (K:Tm→Prop):Prop:=match ops with
 |o::r=>match o.guard,o.op,o.dst with
  |none,.makeMap t none,some d0=>match E.fm t,Nat.blt d0 nt with
   |true,true=>qSK E nt d0 t r ((d0,.any)::s) [] [] K
   |_,_=>Bad 289
  |_,_,_=>Bad 290
 |[]=>Bad 291
inductive Ex where
 |nrm
 |exit (id:Nat)
 |ret
 |jmp (l:Nat)
def prune (keep:List Nat) (s:Tm):Tm:=keep.map fun i=>(i,lk s i)
mutual
def le (nb:Nat):AV→AV→Prop
 |_,.any=>True
 | .bc p,.bc q=>Eq' (fun _=>p) (fun _=>q)
 | .bc p,.b q=>Eq' (fun _=>p) q
 | .b p,.bc q=>Eq' p (fun _=>q)
 | .b p,.b q=>Eq' p q
 | .i k p,.i k' q=>Both (Eq' (fun _=>k) (fun _=>k')) (Eq' p q)
 | .s p,.s q=>Eq' p q
 | .nil,.nil=>True
 | .nil,.sl _ n _=>Eq' n fun _=>0
 | .nil,.own _ n=>Eq' n fun _=>0
 | .con p,.con q=>Eq' p q
 | .agg l,.agg m=>leL nb l m
 | .tup l,.tup m=>leL nb l m
 | .ptr b o,.ptr c p=>match Nat.beq b c,Nat.beq o p,Nat.blt b nb with|true,true,true=>True|_,_,_=>Bad 110
 | .mr b,.mr c=>match Nat.beq b c,Nat.blt b nb with|true,true=>True|_,_=>Bad 110
 | .ept b sz i o,.ept c sz' j p=>match Nat.beq b c,Nat.beq sz sz',Nat.beq o p,Nat.blt b nb with|true,true,true,true=>Eq' i j|_,_,_,_=>Bad 111
 | .own b n,.own c m=>match Nat.beq b c,Nat.blt b nb with|true,true=>Eq' n m|_,_=>Bad 112
 | .vw b sz p n,.vw c sz' q m=>match Nat.beq b c,Nat.beq sz sz',Nat.blt b nb with|true,true,true=>Both (Eq' p q) (Eq' n m)|_,_,_=>Bad 112
 | .nn b n,.nn c m=>match Nat.beq b c,Nat.blt b nb with|true,true=>Eq' n m|_,_=>Bad 112
 | .nn b n,.own c m=>match Nat.beq b c,Nat.blt b nb with|true,true=>Eq' n m|_,_=>Bad 112
 | .own b n,.vw c _ q m=>match Nat.beq b c,Nat.blt b nb with|true,true=>Both (Eq' (fun _=>0) q) (Eq' n m)|_,_=>Bad 112
 | .nil,.vw _ _ _ n=>Eq' n fun _=>0
 | .sl sz n f,.sl sz' m g=>match Nat.beq sz sz' with|true=>Both (Eq' n m) (AllN n fun i=>Both (leL nb (f fun _=>i) (g fun _=>i)) (qL (g fun _=>i)=true))|false=>Bad 113
 | .rp l,.rp m=>Both (leL nb l m) (qL m=true)
 | .fn f l,.fn g m=>match Nat.beq f g with|true=>leL nb l m|false=>Bad 114
 | .ifc t x,.ifc u y=>match Nat.beq t u with|true=>le nb x y|false=>Bad 114
 | .ite c x y,.ite d u v=>Both (Eq' c d) (Both (Imp (fun _=>c ()=true) (le nb x u)) (Imp (fun _=>c ()=false) (le nb y v)))
 | .ite c x y,z=>Both (Imp (fun _=>c ()=true) (le nb x z)) (Imp (fun _=>c ()=false) (le nb y z))
 |_,_=>Bad 115
def leL (nb:Nat):List AV→List AV→Prop
 |[],[]=>True
 |x::l,y::m=>Both (le nb x y) (leL nb l m)
 |_,_=>Bad 116
end
mutual
def leN:NC→NC→Prop
 | .ite c x y,z=>Both (Imp (fun _=>c ()=true) (leN x z)) (Imp (fun _=>c ()=false) (leN y z))
 | .c x,.c y=>Both (le 0 x y) (closed y=true)
 | .c .nil,.sl _ _ n _=>Eq' n fun _=>0
 | .sl e sz n f,.sl e' sz' m g=>match Nat.beq e e',Nat.beq sz sz' with
   |true,true=>Both (Eq' n m) (AllN n fun i=>Both (leL 0 (f fun _=>i) (g fun _=>i)) (qL (g fun _=>i)=true))
   |_,_=>Bad 240
 | .pt l,.pt m=>qSL l m
 |_,_=>Bad 241
def qSL:List NC→List NC→Prop
 |[],[]=>True
 |x::l,y::m=>Both (leN x y) (qSL l m)
 |_,_=>Bad 242
end
def leO (nb:Nat):AObj→AObj→Prop
 |_,.dead=>True
 | .blk l,.blk m=>leL nb l m
 | .vec e sz n f,.vec e' sz' m g=>match Nat.beq e e',Nat.beq sz sz' with
   |true,true=>Both (Eq' n m) (AllN n fun i=>Both (leL nb (f fun _=>i) (g fun _=>i)) (qL (g fun _=>i)=true))
   |_,_=>Bad 117
 | .mp T l,.mp U m=>match Nat.beq T U with|true=>Eq' l m|false=>Bad 117
 | .fz q n f,.fz q' m g=>match eqO q q' with|true=>Both (Eq' n m) (AllN n fun i=>Both (leL nb (f fun _=>i) (g fun _=>i)) (qL (g fun _=>i)=true))|false=>Bad 117
 | .nst e sz n F op,.nst e' sz' m G op'=>match Nat.beq e e',Nat.beq sz sz' with
   |true,true=>match op,op' with
    |none,none=>Both (Eq' n m) (AllN n fun i=>qSL (F fun _=>i) (G fun _=>i))
    |some (k,cs),some (k',cs')=>Both (Eq' n m) (Both (Eq' k k') (Both (leL nb cs cs') (AllN n fun i=>Imp (fun _=>i≠k ()) (qSL (F fun _=>i) (G fun _=>i)))))
    |_,_=>Bad 243
   |_,_=>Bad 244
 | .vec e sz n _,.nst e' sz' m _ none=>match Nat.beq e e',Nat.beq sz sz' with
   |true,true=>Both (Eq' n fun _=>0) (Eq' m fun _=>0)
   |_,_=>Bad 245
 |_,_=>Bad 118
def qSM (nb:Nat):Hp→Hp→Prop
 |_,[]=>True
 |x::h,y::k=>Both (leO nb x y) (qSM nb h k)
 |[],.vec _ _ n _::k=>Both (Eq' n fun _=>0) (qSM nb [] k)
 |[],.dead::k=>qSM nb [] k
 |[],.nst _ _ n _ none::k=>Both (Eq' n fun _=>0) (qSM nb [] k)
 |[],_=>Bad 119
def leH (h k:Hp):Prop:=qSM (len k) h k
def qXY (nb:Nat) (s:Tm):Tm→Prop
 |[]=>True
 |(i,v)::r=>Both (le nb (lk s i) v) (qXY nb s r)
def leT (s:Tm) (s':Tm) (k:Hp):Prop:=qXY (len k) s s'
def qKa:List Nat→List Nat→Bool
 |[],_=>true
 |x::r,l=>match qBL x l with|true=>qKa r l|false=>false
abbrev KEx:=Ex→Tm→Hp→List Nat→Prop
abbrev As:=List (Nat×Nat)
def fwd (j:Nat):As→Option Nat
 |[]=>none
 |(i,b)::r=>match Nat.beq i j with|true=>some b|false=>fwd j r
def bwd (b:Nat):As→Option Nat
 |[]=>none
 |(i,c)::r=>match Nat.beq c b with|true=>some i|false=>bwd b r
def qLg:As→Bool
 |[]=>true
 |(j,b)::r=>match fwd j r,bwd b r with
  |none,none=>qLg r
  |_,_=>false
mutual
def ren (as:As):AV→AV
 | .own b n=>match bwd b as with|some j=> .own j n|none=> .any
 | .vw b sz p n=>match bwd b as with|some j=> .vw j sz p n|none=> .any
 | .nn b n=>match bwd b as with|some j=> .nn j n|none=> .any
 | .ept b sz x o=>match bwd b as with|some j=> .ept j sz x o|none=> .any
 | .ptr b o=>match bwd b as with|some j=> .ptr j o|none=> .any
 | .mr b=>match bwd b as with|some j=> .mr j|none=> .any
 | .agg l=> .agg (qLh as l)
 | .tup l=> .tup (qLh as l)
 | .fn f l=> .fn f (qLh as l)
 | .fm _ _=> .any
 | .ifc t x=> .ifc t (ren as x)
 | .ite c x y=> .ite c (ren as x) (ren as y)
 |x=>x
def qLh (as:As):List AV→List AV
 |[]=>[]
 |x::r=>ren as x::qLh as r
end
def qNf (as:As) (H:Hp) (j:Nat) (y:AObj):AObj:=match fwd j as with
 |some b=>match nth .dead H b with
  | .blk cs=> .blk (qLh as cs)
  | .nst e sz n F op=> .nst e sz n F (opMap (qLh as) op)
  |o=>o
 |none=>match y with
  | .vec e sz _ _=> .vec e sz (fun _=>0) fun _=>[]
  | .nst e sz _ _ none=> .nst e sz (fun _=>0) (fun _=>[]) none
  |_=> .dead
def qIV (as:As) (H:Hp):Nat→Hp→Hp
 |_,[]=>[]
 |j,y::r=>qNf as H j y::qIV as H (j+1) r
def qUw (as:As):Tm→Tm
 |[]=>[]
 |(i,v)::r=>(i,ren as v)::qUw as r
def qCo (N:Nat):As→Bool
 |[]=>true
 |(j,_)::r=>match Nat.blt j N with|true=>qCo N r|false=>false
def qUJ (body:Tm→Hp→List Nat→KEx→Prop) (K:KEx):Nat→Tm→Hp→List Nat→Prop
 |0,_,_,_=>Bad 130
 |n+1,s,h,kl=>body s h kl fun e s' h' kl'=>match e with
  | .nrm=>qUJ body K n s' h' kl'
  |e=>K e s' h' kl'
inductive LoopI (cl:Hp→(Hp→Prop)→Prop) (nh:Nat) (body:Tm→Hp→List Nat→KEx→Prop) (s:Tm) (h:Hp) (kl:List Nat) (K:KEx):Prop where
 |mk (X:Type) (I:X→Tm) (J:X→Hp) (kL:List Nat) (μ:X→Nat) (x0:X) (hk:qKa kl kL=true) (h0:∀x,Nat.ble nh (len (J x))=true) (h1:leT s (I x0) (J x0)) (h2:leH h (J x0))
  (h3:∀x,body (I x) (J x) kL fun e s' h' kl'=>match e with
    | .nrm=>∃y,leT s' (I y) (J y)∧leH h' (J y)∧qKa kl' kL=true∧μ y<μ x
    |e=>K e s' h' kl'):LoopI cl nh body s h kl K
 |mkR (hn:nh=0) (X:Type) (I:X→Tm) (J:X→Hp) (μ:X→Nat) (x0:X) (h1:leT s (I x0) (J x0)) (h2:leH h (J x0))
  (h3:∀x,body (I x) (J x) [] fun e s' h' kl'=>match e with
    | .nrm=>∃y as,qLg as=true∧qCo (len (J y)) as=true∧leT (qUw as s') (I y) (J y)∧leH (qIV as h' 0 (J y)) (J y)∧μ y<μ x
    |e=>K e s' h' kl'):LoopI cl nh body s h kl K
 |mkC (X:Type) (I:X→Tm) (J:X→Hp) (kL:List Nat) (μ:X→Nat) (x0:X) (hk:qKa kl kL=true) (h0:∀x,Nat.ble nh (len (J x))=true) (h1:leT s (I x0) (J x0)) (h2:leH h (J x0))
  (h3:∀x,body (I x) (J x) kL fun e s' h' kl'=>match e with
    | .nrm=>cl h' fun h'=>∃y,leT s' (I y) (J y)∧leH h' (J y)∧qKa kl' kL=true∧μ y<μ x
    |e=>K e s' h' kl'):LoopI cl nh body s h kl K
 |un (n:Nat) (hv:qUJ body K n s h kl):LoopI cl nh body s h kl K
inductive LoopVC (cl:Hp→(Hp→Prop)→Prop) (nh:Nat) (body:Tm→Hp→List Nat→KEx→Prop) (s:Tm) (h:Hp) (kl:List Nat) (K:KEx):Prop where
 |now (hv:LoopI cl nh body s h kl K)
 |cls (hv:cl h fun h=>LoopI cl nh body s h kl K)
theorem LoopVC.un {cl:Hp→(Hp→Prop)→Prop}{nh:Nat}{body:Tm→Hp→List Nat→KEx→Prop}{s:Tm}{h:Hp}{kl:List Nat}{K:KEx}(n:Nat) (hv:qUJ body K n s h kl):LoopVC cl nh body s h kl K:= .now (.un n hv)
abbrev Drw:=Nat→List Oper→Tm→Hp→List Nat→(Tm→Hp→List Nat→Prop)→Prop
def qAa:Drw:=fun _ _ _ _ _ _=>Bad 121
def qPW:AV→Th Prop→Th Prop→Prop
 | .bc true,p,_=>p ()
 | .bc false,_,q=>q ()
 | .b x,p,q=>splitB x p q
 | .ite c x y,p,q=>splitB c (fun _=>qPW x p q) fun _=>qPW y p q
 |_,_,_=>Bad 120
def vc (E:Env) (con:FuncId→Con) (drw:Drw) (nh nt:Nat) (keep:List Nat):Code→Tm→Hp→List Nat→KEx→Prop
 | .skip,s,h,kl,K=>K .nrm s h kl
 | .region _ ops false,s,h,kl,K=>match qUI E ops.toList with
   |true=>qXX E nt ops.toList s fun s=>K .nrm (prune keep s) h kl
   |false=>qHw E con nt ops.toList ops.toList s h kl fun s h kl=>K .nrm (prune keep s) h kl
 | .region _ ops true,s,h,kl,K=>drw nt ops.toList s h kl fun s h kl=>K .nrm (prune keep s) h kl
 | .seq p q,s,h,kl,K=>vc E con drw nh nt keep p s h kl fun e s h kl=>match e with
   | .nrm=>vc E con drw nh nt keep q s h kl K
   | .exit i=>K (.exit i) s h kl
   | .ret=>K .ret s h kl
   | .jmp l=>K (.jmp l) s h kl
 | .cond c p q,s,h,kl,K=>qPW (ev s c) (fun _=>vc E con drw nh nt keep p s h kl K) fun _=>vc E con drw nh nt keep q s h kl K
 | .block id c,s,h,kl,K=>vc E con drw nh nt keep c s h kl fun e s h kl=>match e with
   | .exit i=>match Nat.beq i id with
     |true=>K .nrm s h kl
     |false=>K (.exit i) s h kl
   | .nrm=>K .nrm s h kl
   | .ret=>K .ret s h kl
   | .jmp l=>K (.jmp l) s h kl
 | .loop c,s,h,kl,K=>LoopVC (fun h K=>qMq E (len h) h K) nh (fun s h kl K=>vc E con drw nh nt keep c s h kl K) s h kl K
 | .exit i,s,h,kl,K=>K (.exit i) s h kl
 | .ret,s,h,kl,K=>K .ret s h kl
 | .label _,s,h,kl,K=>K .nrm s h kl
 | .goto l,s,h,kl,K=>K (.jmp l) s h kl
 |_,_,_,_,_=>Bad 121
def qPX (E:Env) (s:Tm) (h:Hp):ResultVar→Option AV
 | .tmp t=>some (lk s t)
 | .cell p t=>match qIF (E.ty t) h (lk s p)with
   | .ok v .no=>some v
   |_=>none
def qGJ (E:Env) (s:Tm) (h:Hp):List ResultVar→Option (List AV)
 |[]=>some []
 |r::l=>match qPX E s h r,qGJ E s h l with
  |some v,some vs=>some (v::vs)
  |_,_=>none
def qSN (E:Env) (cl:Bool) (h:Hp) (K:Hp→Prop):Prop:=match cl with
 |true=>qMq E (len h) h K
 |false=>K h
def qPY (E:Env) (cl:Bool) (rs:List ResultVar) (s:Tm) (h:Hp) (kl:List Nat) (K:qBm):Prop:=
 match qGJ E s h rs with
 |some [v]=>qSN E cl h fun h=>K v h kl
 |some vs=>qSN E cl h fun h=>K (.tup vs) h kl
 |none=>Bad 130
def qIW (n:Nat):List AV→Tm
 |[]=>[]
 |x::r=>(n,x)::qIW (n+1) r
def qPZ (cl:Bool) (E:Env) (con:FuncId→Con) (drw:Drw) (nt:Nat) (keep:List Nat) (rs:List ResultVar) (c:Code) (A:List AV) (H:Hp) (K:qBm):Prop:=
 match Nat.ble (len A) nt with
 |true=>vc E con drw (len H) nt keep c (qIW 0 A) H [] fun e s h kl=>match e with
  | .exit _=>Bad 131
  | .jmp _=>Bad 133
  |_=>qPY E cl rs s h kl K
 |false=>Bad 132
def qYB (E:Env) (con:FuncId→Con) (drw:Drw) (nt:Nat) (keep:List Nat) (rs:List ResultVar) (c:Code) (A:List AV) (H:Hp) (K:qBm):Prop:=qPZ true E con drw nt keep rs c A H K
end Go.Abs
namespace Go.Abs
open Go
variable [Kd]
section
variable {P:Program}{E:Env}{w w':World}{M M':Nat→Prop}{β β':Nat→Option Nat}{cp cp':Nat→Nat}{h h':Hp}
def cut (nb:Nat) (β:Nat→Option Nat):Nat→Option Nat:=fun b=>if b<nb then β b else none
set_option maxHeartbeats 2000000
mutual
theorem qBi (nb:Nat):∀(x y:AV) (v:Value),Rep w M β cp x v→le nb x y→Rep w M (cut nb β) cp y v
 |x,.any,v,_,_=> .c (.any v)
 | .bc p,.bc q,v,hr,hl=>by cases hl with|mk hl=>rw[qAN hr];rw[show p=q from hl];exact .c (.bc q)
 | .bc p,.b q,v,hr,hl=>by cases hl with|mk hl=>rw[qAN hr];rw[show p=q ()from hl];exact .c (.b q)
 | .b p,.bc q,v,hr,hl=>by cases hl with|mk hl=>rw[qBU hr];rw[show p ()=q from hl];exact .c (.bc q)
 | .b p,.b q,v,hr,hl=>by cases hl with|mk hl=>rw[qBU hr];rw[show p ()=q ()from hl];exact .c (.b q)
 | .i k p,.i k' q,v,hr,hl=>by
   cases hl with|mk h1 h2=>cases h1 with|mk h1=>cases h2 with|mk h2=>rw[qAB hr];rw[show k=k' from h1,show p ()=q ()from h2];exact .c (.i k' q)
 | .s p,.s q,v,hr,hl=>by cases hl with|mk hl=>rw[qBV hr];rw[show p ()=q ()from hl];exact .c (.s q)
 | .nil,.nil,v,hr,_=>by rw[qAJ hr];exact .c .nil
 | .nil,.sl sz n f,v,hr,hl=>by cases hl with|mk hl=>rw[qAJ hr];exact .c (.sl0 sz n f none 0 hl (by unfold maxLen;omega))
 | .nil,.own b n,v,hr,hl=>by cases hl with|mk hl=>rw[qAJ hr];exact .own0 b n hl
 | .nil,.vw b sz p n,v,hr,hl=>by cases hl with|mk hl=>rw[qAJ hr];exact .vw0 b sz p n none 0 hl (by unfold maxLen;omega)
 | .vw b sz p n,.vw c sz' p' m,v,hr,hl=>by
   simp only[le]at hl
   split at hl
   ·rename_i q1 q2 q3
    have q1:=qC.1 q1
    have q2:=qC.1 q2
    subst q1 q2
    cases hl with
    |mk h1 h2=>
     cases h1 with|mk h1=>cases h2 with|mk h2=>
     rcases qB8 hr with⟨h0,a,c',hc',rfl⟩|⟨g,hg,hn,rfl⟩
     ·exact .vw0 b sz p' m a c' (by rw[←h2];exact h0) hc'
     ·rw[h1,h2]at hn ⊢
      exact .vw b sz p' m g (by simp[cut,qQ.1 q3,hg]) hn
   ·cases hl
 | .nn b n,.nn c m,v,hr,hl=>by
   simp only[le]at hl
   split at hl
   ·rename_i q1 q3
    have q1:=qC.1 q1
    subst q1
    cases hl with
    |mk hl=>
     obtain⟨g,hg,hn,rfl⟩:=qBK hr
     rw[hl]at hn ⊢
     exact .nn b m g (by simp[cut,qQ.1 q3,hg]) hn
   ·cases hl
 | .nn b n,.own c m,v,hr,hl=>by
   simp only[le]at hl
   split at hl
   ·rename_i q1 q3
    have q1:=qC.1 q1
    subst q1
    cases hl with
    |mk hl=>
     obtain⟨g,hg,hn,rfl⟩:=qBK hr
     rw[hl]at hn ⊢
     exact .own b m g (by simp[cut,qQ.1 q3,hg]) hn
   ·cases hl
 | .own b n,.vw c sz p m,v,hr,hl=>by
   simp only[le]at hl
   split at hl
   ·rename_i q1 q3
    have q1:=qC.1 q1
    subst q1
    cases hl with
    |mk h1 h2=>
     cases h1 with|mk h1=>cases h2 with|mk h2=>
     rcases qW hr with⟨h0,rfl⟩|⟨g,hg,hn,rfl⟩
     ·exact .vw0 b sz p m none 0 (by rw[←h2];exact h0) (by unfold maxLen;omega)
     ·have:=Rep.vw (w:=w) (M:=M) (β:=cut nb β) (cp:=cp) b sz p m g (by simp[cut,qQ.1 q3,hg]) (by rw[←h1,←h2];omega)
      rw[←h1,←h2]at this
      simpa using this
   ·cases hl
 | .con p,.con q,v,hr,hl=>by
   cases hl with|mk hl=>cases hr with|c hr=>cases hr with|con _ hx=>rw[show p ()=q ()from hl]at*;exact .c (.con q hx)
 | .agg l,.agg m,v,hr,hl=>by
   obtain⟨cs,rfl,hL,ho⟩:=qBs hr
   have:=qAq nb l m cs.toList hL hl
   exact .agg m cs (by simpa using this.1) (fun v hv=>ho v (by simpa using hv)) fun j x hj=>by rw[qG];exact this.2 j x hj
 | .tup l,.tup m,v,hr,hl=>by
   obtain⟨cs,rfl,hL⟩:=qBG hr
   have:=qAq nb l m cs.toList hL hl
   exact .tup m cs (by simpa using this.1) fun j x hj=>by rw[qG];exact this.2 j x hj
 | .ptr b o,.ptr c p,v,hr,hl=>by
   simp only[le]at hl
   split at hl
   ·rename_i q1 q2 q3
    have q1:=qC.1 q1
    have q2:=qC.1 q2
    subst q1 q2
    obtain⟨g,hg,rfl⟩:=qA7 hr
    exact .ptr b o g (by simp[cut,qQ.1 q3,hg])
   ·cases hl
 | .mr b,.mr c,v,hr,hl=>by
   simp only[le]at hl
   split at hl
   ·rename_i q1 q3
    have q1:=qC.1 q1
    subst q1
    obtain⟨g,hg,rfl⟩:=qE2 hr
    exact .mr b g (by simp[cut,qQ.1 q3,hg])
   ·cases hl
 | .ept b sz i o,.ept c sz' j p,v,hr,hl=>by
   simp only[le]at hl
   split at hl
   ·rename_i q1 q2 q4 q3
    have q1:=qC.1 q1
    have q2:=qC.1 q2
    have q4:=qC.1 q4
    subst q1 q2 q4
    cases hl with
    |mk hl=>
     obtain⟨g,hg,rfl⟩:=qBH hr
     rw[hl]
     exact .ept b sz j o g (by simp[cut,qQ.1 q3,hg])
   ·cases hl
 | .own b n,.own c m,v,hr,hl=>by
   simp only[le]at hl
   split at hl
   ·rename_i q1 q3
    have q1:=qC.1 q1
    subst q1
    cases hl with
    |mk hl=>
     rcases qW hr with⟨h0,rfl⟩|⟨g,hg,hn,rfl⟩
     ·exact .own0 b m (by rw[←hl];exact h0)
     ·rw[hl]at hn ⊢
      exact .own b m g (by simp[cut,qQ.1 q3,hg]) hn
   ·cases hl
 | .sl sz n f,.sl sz' m g,v,hr,hl=>by
   simp only[le]at hl
   split at hl
   ·rename_i q1
    have q1:=qC.1 q1
    subst q1
    cases hl with
    |mk h1 h2=>
     cases h1 with
     |mk h1=>
      cases h2 with
      |mk h2=>
       obtain⟨ao,c,rfl,hnc,hcm,hrr⟩:=qE3 hr
       by_cases h0:n ()=0
       ·rw[h0]
        exact .c (.sl0 sz m g ao c (by rw[←h1];exact h0) hcm)
       ·obtain⟨ad,u,rfl,hM,hs,hlen,hcell,ho,hrep⟩:=hrr (by omega)
        rw[h1]
        have e:∀i:Nat,i<m ()→∃vs:List Value,vs.length=sz∧(∀j,vs.getD j undef=if j<sz then u i j else undef)∧qAs w M β cp (f fun _=>i) vs:=by
         intro i hi
         refine⟨(List.range sz).map (u i),by simp,fun j=> ?_,by simp[hlen i (by omega)],fun j x hj=> ?_⟩
         ·by_cases hj:j<sz<;>simp[List.getD_eq_getElem?_getD,hj]
         ·have hjs:j<sz:=by rw[←hlen i (by omega)];exact(List.getElem?_eq_some_iff.1 hj).1
          have:=hrep i j x (by omega) hj
          simpa[List.getD_eq_getElem?_getD,hjs]using Rep.c this
        have hg:∀i:Nat,i<m ()→(g fun _=>i).length=sz∧∀(j:Nat) (x:AV),(g fun _=>i)[j]? =some x→RepC w M x (u i j):=by
         intro i hi
         obtain⟨vs,hv1,hv2,hv3⟩:=e i hi
         cases h2 i (by rw[h1];exact hi)with
         |mk h3 h4=>
          have:=qAq nb (f fun _=>i) (g fun _=>i) vs hv3 h3
          refine⟨by have:=this.1;omega,fun j x hj=> ?_⟩
          have hjs:j<sz:=by
           have h5:=this.1
           have h6:=(List.getElem?_eq_some_iff.1 hj).1
           omega
          have h7:=qR (this.2 j x hj) (qT h4 hj)
          rw[hv2 j,if_pos hjs]at h7
          exact h7
        exact .c (.sl sz m g ad c u hM hs (by omega) hcm (fun i hi=>(hg i hi).1) (fun i j hi hj=>hcell i j (by omega) hj) (fun i j hi hj=>ho i j (by omega) hj) fun i j x hi hj=>(hg i hi).2 j x hj)
   ·cases hl
 | .rp l,.rp m,v,hr,hl=>by
   obtain⟨ad,u,rfl,hM,hl0,hc,ho,hrep⟩:=qIG hr
   cases hl with
   |mk h1 h2=>
    have hL:qAs w M β cp l ((List.range l.length).map u):=⟨by simp,fun j x hj=>by
     have hjl:=(List.getElem?_eq_some_iff.1 hj).1
     simpa[List.getD_eq_getElem?_getD,hjl]using Rep.c (hrep j x hj)⟩
    have:=qAq nb l m _ hL h1
    have hml:m.length=l.length:=by have:=this.1;simp at this;omega
    refine .c (.rp m ad u hM (by omega) (fun j hj=>hc j (by omega)) (fun j hj=>ho j (by omega)) fun j x hj=> ?_)
    have hjl:=(List.getElem?_eq_some_iff.1 hj).1
    have h7:=qR (this.2 j x hj) (qT h2 hj)
    simpa[List.getD_eq_getElem?_getD,show j<l.length by omega]using h7
 | .fn f l,.fn g m,v,hr,hl=>by
   simp only[le]at hl
   split at hl
   ·rename_i q1
    have q1:=qC.1 q1
    subst q1
    obtain⟨cs,rfl,hL⟩:=qDQ hr
    have:=qAq nb l m cs.toList hL hl
    exact .fn f m cs (by simpa using this.1) fun j x hj=>by rw[qG];exact this.2 j x hj
   ·cases hl
 | .ifc t x,.ifc u y,v,hr,hl=>by
   simp only[le]at hl
   split at hl
   ·rename_i q1
    have q1:=qC.1 q1
    subst q1
    obtain⟨u,rfl,h⟩:=qCO hr
    exact .ifc t y u (qBi nb x y u h hl)
   ·cases hl
 | .ite c x y,z,v,hr,hl=>by
   have key:(c ()=true→Rep w M β cp x v)∧(c ()=false→Rep w M β cp y v):=by
    cases hr with
    |c h=>cases h with|ite _ _ _ _ h1 h2=>exact⟨fun h=> .c (h1 h),fun h=> .c (h2 h)⟩
    |ite _ _ _ _ h1 h2=>exact⟨h1,h2⟩
   cases z with
   |any=>exact .c (.any v)
   |ite d u1 u2=>
    cases hl with
    |mk h0 h=>
     cases h0 with
     |mk h0=>
      cases h with
      |mk h1 h2=>
       cases h1 with
       |mk h1=>
        cases h2 with
        |mk h2=>
         have h0:c ()=d ():=h0
         exact .ite d u1 u2 v (fun e=>qBi nb x _ v (key.1 (h0.trans e)) (h1 (h0.trans e))) fun e=>qBi nb y _ v (key.2 (h0.trans e)) (h2 (h0.trans e))
   |_=>
    cases hl with
    |mk h1 h2=>
     cases h1 with
     |mk h1=>
      cases h2 with
      |mk h2=>
       cases hc:c ()with
       |true=>exact qBi nb x _ v (key.1 hc) (h1 hc)
       |false=>exact qBi nb y _ v (key.2 hc) (h2 hc)
theorem qAq (nb:Nat):∀(l m:List AV) (vs:List Value),qAs w M β cp l vs→leL nb l m→qAs w M (cut nb β) cp m vs
 |[],[],vs,hr,_=>⟨hr.1,fun j x hj=>by simp at hj⟩
 |x::l,y::m,vs,hr,hl=>by
  cases hl with
  |mk h1 h2=>
   match vs,hr with
   |[],hr=>exact absurd hr.1 (by simp)
   |u::vs,hr=>
    have hx:=qBi nb x y u (by have:=hr.2 0 x rfl;simpa using this) h1
    have:=qAq nb l m vs ⟨by have:=hr.1;simp at this;omega,fun j x hj=>by have:=hr.2 (j+1) x (by simpa using hj);simpa using this⟩ h2
    refine⟨by have:=this.1;simp;omega,fun j z hj=> ?_⟩
    cases j with
    |zero=>simp at hj;subst hj;simpa using hx
    |succ j=>have:=this.2 j z (by simpa using hj);simpa using this
end
end
end Go.Abs
namespace Go.Abs
open Go
variable [Kd]
section
variable {P:Program}{E:Env}{w w':World}{M M':Nat→Prop}{β β':Nat→Option Nat}{cp cp':Nat→Nat}{h h':Hp}
theorem qMs {x y:AV}{v:Value}(h:RepC w M x v) (hl:le 0 x y) (hc:closed y=true):RepC w M y v:=
 qR (qBi (β:=fun _=>none) (cp:=fun _=>0) 0 x y v (.c h) hl) hc
theorem qKb {l m:List AV}{g:Nat→Value}(hl:l.length≤1000000→True) (h:∀(j:Nat) (x:AV),l[j]? =some x→RepC w M x (g j)) (hle:leL 0 l m) (hc:qL m=true):m.length=l.length∧∀(j:Nat) (x:AV),m[j]? =some x→RepC w M x (g j):=by
 have hv:qAs w M (fun _=>none) (fun _=>0) l ((List.range l.length).map g):=⟨by simp,fun j x hj=>by
  have hjs:j<l.length:=(List.getElem?_eq_some_iff.1 hj).1
  have:=h j x hj
  simpa[List.getD_eq_getElem?_getD,hjs]using Rep.c this⟩
 have h2:=qAq 0 l m _ hv hle
 have h3:m.length=l.length:=by have:=h2.1;simp at this;omega
 refine⟨h3,fun j x hj=> ?_⟩
 have hjs:j<l.length:=by have:=(List.getElem?_eq_some_iff.1 hj).1;omega
 have h4:=qR (h2.2 j x hj) (qT hc hj)
 simpa[List.getD_eq_getElem?_getD,hjs]using h4
mutual
theorem qFQ:∀(x y:NC) (v:Value),OwnV w M x v→leN x y→OwnV w M y v∧∀k,VFoot w y v k→VFoot w x v k
 | .ite c x y,z,v,ho,hl=>by
   unfold leN at hl
   cases hl with
   |mk h1 h2=>
    cases h1 with|mk h1=>cases h2 with|mk h2=>
    cases ho with
    |ite _ _ _ _ o1 o2=>
     cases hc:c ()with
     |true=>
      have:=qFQ x z v (o1 hc) (h1 hc)
      exact⟨this.1,fun k hk=> .ite1 c x y v k hc (this.2 k hk)⟩
     |false=>
      have:=qFQ y z v (o2 hc) (h2 hc)
      exact⟨this.1,fun k hk=> .ite2 c x y v k hc (this.2 k hk)⟩
 | .c x,.c y,v,ho,hl=>by
   have hl:Both (le 0 x y) (closed y=true):=by cases x<;>exact hl
   cases hl with
   |mk h1 h2=>cases ho with|c _ _ h=>exact⟨.c y v (qMs h h1 h2),fun k hk=>by cases hk⟩
 | .c x,.sl e sz n f,v,ho,hl=>by
   cases ho with
   |c _ _ h=>
    cases x<;>first|(cases hl;done)|skip
    cases hl with
    |mk hl=>cases h;exact⟨.nil e sz n f hl,fun k hk=>by cases hk⟩
 | .c x,.pt l,v,ho,hl=>by cases x<;>cases hl
 | .c x,.ite c y z,v,ho,hl=>by cases x<;>cases hl
 | .sl e sz n f,.sl e' sz' m g,v,ho,hl=>by
   simp only[leN]at hl
   split at hl
   ·rename_i q1 q2
    have q1:=qC.1 q1
    have q2:=qC.1 q2
    subst q1 q2
    cases hl with
    |mk h1 h2=>
     cases h1 with|mk h1=>cases h2 with|mk h2=>
     cases ho with
     |nil _ _ _ _ hn=>exact⟨.nil _ _ _ _ (by rw[←h1];exact hn),fun k hk=>by cases hk⟩
     |sl _ _ _ _ gg c cur hM hc hs ho hn hm hlen h=>
      have hg:∀i:Nat,i<n ()→(g fun _=>i).length=sz∧∀(j:Nat) (x:AV),(g fun _=>i)[j]? =some x→RepC w M x (cur.getD (i*sz+j) undef):=by
       intro i hi
       cases h2 i hi with
       |mk h3 h4=>
        have:=qKb (g:=fun j=>cur.getD (i*sz+j) undef) (fun _=>trivial) (fun j x hj=>h i j x hi hj) h3 h4
        exact⟨this.1.trans (hlen i hi),this.2⟩
      rw[h1]at hn ho ⊢
      exact⟨.sl _ _ _ _ gg c cur hM hc hs ho hn hm (fun i hi=>(hg i (by omega)).1) (fun i j x hi hj=>(hg i (by omega)).2 j x hj),fun k hk=>by cases hk;exact .sl _ _ _ _ ⟨gg,0,none⟩ _ _⟩
   ·cases hl
 | .sl _ _ _ _,.c _,_,_,hl=>by cases hl
 | .sl _ _ _ _,.pt _,_,_,hl=>by cases hl
 | .sl _ _ _ _,.ite _ _ _,_,_,hl=>by cases hl
 | .pt l,.pt m,v,ho,hl=>by
   cases ho with
   |pt _ g cur t hM hc h1 hlen h hd hne=>
    have hv:=qDe l m (fun j=>cur.getD j undef) h hl
    refine⟨.pt m g cur t hM hc h1 (by rw[hv.1];exact hlen) (fun j x hj=>((hv.2 j x hj).1)) (fun j j' x x' k hj hj' hk hk'=> ?_) (fun j x k hj hk=> ?_),fun k hk=> ?_⟩
    ·obtain⟨-,y,q1,q2⟩:=hv.2 j x hj
     obtain⟨-,y',q1',q2'⟩:=hv.2 j' x' hj'
     exact hd j j' y y' k q1 q1' (q2 k hk) (q2' k hk')
    ·obtain⟨-,y,q1,q2⟩:=hv.2 j x hj
     exact hne j y k q1 (q2 k hk)
    ·cases hk with
     |pt=>exact .pt l ⟨g,0,none⟩
     |inn _ _ cur' t' fr j x k q1 q2 q3=>
      have q1:w.heap[g]? =some (.cells cur' t' fr):=q1
      rw[hc]at q1
      simp only[Option.some.injEq,Obj.cells.injEq]at q1
      obtain⟨rfl,rfl,rfl⟩:=q1
      obtain⟨-,y,p1,p2⟩:=hv.2 j x q2
      exact .inn l ⟨g,0,none⟩ cur t (0,0) j y k hc p1 (p2 k q3)
 | .pt _,.c _,_,_,hl=>by cases hl
 | .pt _,.sl _ _ _ _,_,_,hl=>by cases hl
 | .pt _,.ite _ _ _,_,_,hl=>by cases hl
theorem qDe:∀(l m:List NC) (g:Nat→Value),(∀(j:Nat) (x:NC),l[j]? =some x→OwnV w M x (g j))→qSL l m→m.length=l.length∧∀(j:Nat) (y:NC),m[j]? =some y→OwnV w M y (g j)∧∃x,l[j]? =some x∧∀k,VFoot w y (g j) k→VFoot w x (g j) k
 |[],[],g,h,_=>⟨rfl,fun j y hj=>by simp at hj⟩
 |x::l,y::m,g,h,hl=>by
  cases hl with
  |mk h1 h2=>
   have hx:=qFQ x y (g 0) (h 0 x rfl) h1
   have ih:=qDe l m (fun j=>g (j+1)) (fun j x hj=>h (j+1) x (by simpa using hj)) h2
   refine⟨by simp[ih.1],fun j z hj=> ?_⟩
   cases j with
   |zero=>simp at hj;subst hj;exact⟨hx.1,x,rfl,hx.2⟩
   |succ j=>simpa using ih.2 j z (by simpa using hj)
 |[],_::_,_,_,hl=>by cases hl
 |_::_,[],_,_,hl=>by cases hl
end
theorem qNw {nb b:Nat}(hb:b<nb):∀(x y:AObj),qAo w M β cp b x→leO nb x y→qAo w M (cut nb β) cp b y
 |x,.dead,_,_=>trivial
 | .blk l,.blk m,hr,hl=>by
   obtain⟨g,cur,t,h1,h2,h3,h4,h5⟩:=hr
   exact⟨g,cur,t,by simp[cut,hb,h1],h2,h3,qAq nb l m _ h4 hl,h5⟩
 | .vec e sz n f,.vec e' sz' m g,hr,hl=>by
   simp only[leO]at hl
   split at hl
   ·rename_i q1 q2
    have q1:=qC.1 q1
    have q2:=qC.1 q2
    subst q1 q2
    cases hl with
    |mk h1 h2=>
     cases h1 with
     |mk h1=>
      cases h2 with
      |mk h2=>
       rcases hr with⟨r1,r2⟩|⟨gg,cur,r1,r2,r3,r4,r5,r6,r7,r8,r9⟩
       ·exact .inl ⟨by simp[cut,hb,r1],by rw[←h1];exact r2⟩
       ·have hg:∀i:Nat,i<n ()→(g fun _=>i).length=sz∧∀(j:Nat) (x:AV),(g fun _=>i)[j]? =some x→RepC w M x (cur.getD (i*sz+j) undef):=by
         intro i hi
         cases h2 i hi with
         |mk h3 h4=>
          have hv:qAs w M β cp (f fun _=>i) ((List.range sz).map fun j=>cur.getD (i*sz+j) undef):=⟨by simp[r8 i hi],fun j x hj=>by
           have hjs:j<sz:=by rw[←r8 i hi];exact(List.getElem?_eq_some_iff.1 hj).1
           have:=r9 i j x hi hj
           simpa[List.getD_eq_getElem?_getD,hjs]using Rep.c this⟩
          have:=qAq nb (f fun _=>i) (g fun _=>i) _ hv h3
          refine⟨by have:=this.1;simp at this;omega,fun j x hj=> ?_⟩
          have hjs:j<sz:=by
           have h5:=this.1
           have h6:=(List.getElem?_eq_some_iff.1 hj).1
           simp at h5
           omega
          have h7:=qR (this.2 j x hj) (qT h4 hj)
          simpa[List.getD_eq_getElem?_getD,hjs]using h7
        exact .inr ⟨gg,cur,by simp[cut,hb,r1],r2,r3,r4,by rw[←h1];exact r5,by rw[←h1];exact r6,r7,fun i hi=>(hg i (by omega)).1,fun i j x hi hj=>(hg i (by omega)).2 j x hj⟩
   ·cases hl
 | .fz q n f,.fz q' m g,hr,hl=>by
   simp only[leO]at hl
   obtain⟨gg,cur,t,fr,r1,r2,r3,r4,r6,r8,r9⟩:=hr
   split at hl
   case h_2=>cases hl
   rename_i hq
   have hq:=qSB hq
   subst hq
   cases hl with
   |mk h1 h2=>
    cases h1 with
    |mk h1=>
     cases h2 with
     |mk h2=>
      have hg:∀i:Nat,i<n ()→(g fun _=>i).length=1∧∀(j:Nat) (x:AV),(g fun _=>i)[j]? =some x→RepC w M x (cur.getD (i+j) undef):=by
       intro i hi
       cases h2 i hi with
       |mk h3 h4=>
        have hv:qAs w M β cp (f fun _=>i) ((List.range 1).map fun j=>cur.getD (i+j) undef):=⟨by simp[r8 i hi],fun j x hj=>by
         have hjs:j<1:=by rw[←r8 i hi];exact(List.getElem?_eq_some_iff.1 hj).1
         have:=r9 i j x hi hj
         obtain rfl:j=0:=by omega
         simpa using Rep.c this⟩
        have:=qAq nb (f fun _=>i) (g fun _=>i) _ hv h3
        refine⟨by have:=this.1;simp at this;omega,fun j x hj=> ?_⟩
        have hjs:j<1:=by
         have h5:=this.1
         have h6:=(List.getElem?_eq_some_iff.1 hj).1
         simp at h5
         omega
        have h7:=qR (this.2 j x hj) (qT h4 hj)
        obtain rfl:j=0:=by omega
        simpa using h7
      exact⟨gg,cur,t,fr,by simp[cut,hb,r1],r2,r3,by rw[←h1];exact r4,r6,fun i hi=>(hg i (by omega)).1,fun i j x hi hj=>(hg i (by omega)).2 j x hj⟩
 | .mp T l,.mp U m,hr,hl=>by
   simp only[leO]at hl
   split at hl
   ·rename_i q
    have q:=qC.1 q
    subst q
    cases hl with
    |mk h1=>
     obtain⟨g,es,clk,r1,r2,r3,r4⟩:=hr
     exact⟨g,es,clk,by simp[cut,hb,r1],r2,r3,by rw[←h1];exact r4⟩
   ·cases hl
 | .nst e sz n F op,.nst e' sz' m G op',hr,hl=>by
   simp only[leO]at hl
   split at hl
   ·rename_i q1 q2
    have q1:=qC.1 q1
    have q2:=qC.1 q2
    subst q1 q2
    have key:n ()=m ()∧(∀i:Nat,i<n ()→¬opAt op i→qSL (F fun _=>i) (G fun _=>i))∧(∀i,opAt op i↔opAt op' i)∧(op=none↔op'=none)∧∀k' cs',op'=some (k',cs')→∃k cs,op=some (k,cs)∧k ()=k' ()∧leL nb cs cs':=by
     match op,op',hl with
     |none,none,hl=>
      cases hl with|mk h1 h2=>cases h1 with|mk h1=>cases h2 with|mk h2=>
      exact⟨h1,fun i hi _=>h2 i hi,fun i=>Iff.rfl,Iff.rfl,fun k' cs' h=>by cases h⟩
     |some (k,cs),some (k',cs'),hl=>
      cases hl with|mk h1 h2=>cases h1 with|mk h1=>cases h2 with|mk h2 h3=>cases h2 with|mk h2=>cases h3 with|mk h3 h4=>cases h4 with|mk h4=>
      exact⟨h1,fun i hi ho=>by cases h4 i hi with|mk q=>exact q fun e=>ho e.symm,fun i=>by show k ()=i↔k' ()=i;rw[h2],by simp,fun k'' cs'' h=>by cases h;exact⟨k,cs,rfl,h2,h3⟩⟩
     |none,some _,hl=>cases hl
     |some _,none,hl=>cases hl
    obtain⟨e1,hrow,hop,hno,hopn⟩:=key
    rcases hr with⟨r1,r2,r3⟩|⟨g,cur,r1,r⟩
    ·exact .inl ⟨by simp[cut,hb,r1],by rw[←e1];exact r2,hno.1 r3⟩
    ·have hv:∀i:Nat,i<m ()→¬opAt op' i→(G fun _=>i).length=(F fun _=>i).length∧∀(j:Nat) (y:NC),(G fun _=>i)[j]? =some y→OwnV w M y (cur.getD (i*sz+j) undef)∧∃x,(F fun _=>i)[j]? =some x∧∀k,VFoot w y (cur.getD (i*sz+j) undef) k→VFoot w x (cur.getD (i*sz+j) undef) k:=
      fun i hi ho=>qDe (F fun _=>i) (G fun _=>i) (fun j=>cur.getD (i*sz+j) undef) (fun j x hj=>r.own i j x (by omega) (fun h=>ho ((hop i).1 h)) hj) (hrow i (by omega) fun h=>ho ((hop i).1 h))
     refine .inr ⟨g,cur,by simp[cut,hb,r1],⟨r.hM,r.cell,r.size,by rw[←e1];exact r.ones,by rw[←e1];exact r.le,r.max,fun i hi ho=> ?_,fun i j y hi ho hj=>((hv i hi ho).2 j y hj).1,fun i j i' j' y y' k hi hi' ho ho' hj hj' hk hk'=> ?_,fun i j y k hi ho hj hk=> ?_,fun k cs ho=> ?_⟩⟩
     ·exact(hv i hi ho).1.trans (r.len i (by omega) fun h=>ho ((hop i).1 h))
     ·obtain⟨-,x,q1,q2⟩:=(hv i hi ho).2 j y hj
      obtain⟨-,x',q1',q2'⟩:=(hv i' hi' ho').2 j' y' hj'
      exact r.dis i j i' j' x x' k (by omega) (by omega) (fun h=>ho ((hop i).1 h)) (fun h=>ho' ((hop i').1 h)) q1 q1' (q2 k hk) (q2' k hk')
     ·obtain⟨-,x,q1,q2⟩:=(hv i hi ho).2 j y hj
      exact r.ne i j x k (by omega) (fun h=>ho ((hop i).1 h)) q1 (q2 k hk)
     ·obtain⟨k0,cs0,q1,q2,q3⟩:=hopn k cs ho
      obtain⟨p1,p2,p3⟩:=r.opn k0 cs0 q1
      have hL:qAs w M β cp cs0 ((List.range sz).map fun j=>cur.getD (k0 ()*sz+j) undef):=⟨by simp[p2],fun j x hj=>by
       have hjs:j<sz:=by rw[←p2];exact(List.getElem?_eq_some_iff.1 hj).1
       have:=p3 j x hj
       simpa[List.getD_eq_getElem?_getD,hjs]using this⟩
      have h2:=qAq nb cs0 cs _ hL q3
      have h3:cs.length=sz:=by have:=h2.1;simp at this;omega
      refine⟨by omega,h3,fun j x hj=> ?_⟩
      have hjs:j<sz:=by rw[←h3];exact(List.getElem?_eq_some_iff.1 hj).1
      have h4:=h2.2 j x hj
      rw[←q2]
      simpa[List.getD_eq_getElem?_getD,hjs]using h4
   ·cases hl
 | .vec e sz n f,.nst e' sz' m G none,hr,hl=>by
   simp only[leO]at hl
   split at hl
   ·rename_i q1 q2
    have q1:=qC.1 q1
    have q2:=qC.1 q2
    subst q1 q2
    cases hl with
    |mk h1 h2=>
     cases h1 with|mk h1=>cases h2 with|mk h2=>
     rcases hr with⟨r1,r2⟩|⟨gg,cur,r1,r2,r3,r4,r5,r6,r7,r8,r9⟩
     ·exact .inl ⟨by simp[cut,hb,r1],h2,rfl⟩
     ·exact .inr ⟨gg,cur,by simp[cut,hb,r1],⟨r2,r3,r4,by rw[h2,←h1];exact r5,by omega,r7,fun i hi=>by omega,fun i j x hi=>by omega,fun i j i' j' x x' k hi=>by omega,fun i j x k hi=>by omega,fun k cs h=>by cases h⟩⟩
   ·cases hl
 | .vec _ _ _ _,.nst _ _ _ _ (some _),_,hl=>by cases hl
 | .dead,.nst _ _ _ _ _,_,hl=>by cases hl
 | .blk _,.nst _ _ _ _ _,_,hl=>by cases hl
 | .fz _ _ _,.nst _ _ _ _ _,_,hl=>by cases hl
 | .mp _ _,.nst _ _ _ _ _,_,hl=>by cases hl
 | .nst _ _ _ _ _,.blk _,_,hl=>by cases hl
 | .nst _ _ _ _ _,.vec _ _ _ _,_,hl=>by cases hl
 | .nst _ _ _ _ _,.fz _ _ _,_,hl=>by cases hl
 | .nst _ _ _ _ _,.mp _ _,_,hl=>by cases hl
 | .dead,.mp _ _,_,hl=>by cases hl
 | .blk _,.mp _ _,_,hl=>by cases hl
 | .vec _ _ _ _,.mp _ _,_,hl=>by cases hl
 | .fz _ _ _,.mp _ _,_,hl=>by cases hl
 | .mp _ _,.blk _,_,hl=>by cases hl
 | .mp _ _,.vec _ _ _ _,_,hl=>by cases hl
 | .mp _ _,.fz _ _ _,_,hl=>by cases hl
 | .dead,.blk _,_,hl=>by cases hl
 | .dead,.fz _ _ _,_,hl=>by cases hl
 | .blk _,.fz _ _ _,_,hl=>by cases hl
 | .vec _ _ _ _,.fz _ _ _,_,hl=>by cases hl
 | .fz _ _ _,.blk _,_,hl=>by cases hl
 | .fz _ _ _,.vec _ _ _ _,_,hl=>by cases hl
 | .dead,.vec _ _ _ _,_,hl=>by cases hl
 | .blk _,.vec _ _ _ _,_,hl=>by cases hl
 | .vec _ _ _ _,.blk _,_,hl=>by cases hl
def AObj.unborn:AObj→Prop
 | .dead=>True
 | .vec _ _ n _=>n ()=0
 | .blk _=>False
 | .fz _ _ _=>False
 | .mp _ _=>False
 | .nst _ _ n _ op=>n ()=0∧op=none
theorem qFm {nb:Nat}:∀{k:Hp},qSM nb [] k→∀(b:Nat) (y:AObj),k[b]? =some y→y.unborn
 |[],_,b,y,hb=>by simp at hb
 | .dead::k,hl,b,y,hb=>by
   cases b with
   |zero=>simp at hb;subst hb;trivial
   |succ b=>exact qFm (k:=k) hl b y (by simpa using hb)
 | .vec _ _ n _::k,hl,b,y,hb=>by
   cases hl with
   |mk h1 h2=>
    cases b with
    |zero=>simp at hb;subst hb;cases h1 with|mk h1=>exact h1
    |succ b=>exact qFm (k:=k) h2 b y (by simpa using hb)
 | .nst _ _ n _ none::k,hl,b,y,hb=>by
   cases hl with
   |mk h1 h2=>
    cases b with
    |zero=>simp at hb;subst hb;cases h1 with|mk h1=>exact⟨h1,rfl⟩
    |succ b=>exact qFm (k:=k) h2 b y (by simpa using hb)
 | .nst _ _ _ _ (some _)::k,hl,b,y,hb=>by cases hl
 | .blk _::k,hl,b,y,hb=>by cases hl
 | .fz _ _ _::k,hl,b,y,hb=>by cases hl
 | .mp _ _::k,hl,b,y,hb=>by cases hl
theorem qDf {nb:Nat}:∀{h k:Hp},qSM nb h k→∀(b:Nat) (y:AObj),k[b]? =some y→(∃x,h[b]? =some x∧leO nb x y)∨(h.length≤b∧y.unborn)
 |_,[],_=>fun b y hb=>by simp at hb
 |x::h,y::k,hl=>by
  cases hl with
  |mk h1 h2=>
   have ih:=qDf h2
   refine fun b z hb=> ?_
   cases b with
   |zero=>simp at hb;subst hb;exact .inl ⟨x,rfl,h1⟩
   |succ b=>simpa using ih b z (by simpa using hb)
 |[],y::k,hl=>fun b z hb=> .inr ⟨Nat.zero_le _,qFm hl b z hb⟩
theorem qDg {nb:Nat}{x y:AObj}(hl:leO nb x y) (hy:y.live=true):x.live=true:=by
 cases y with
 |dead=>cases hy
 |blk l=>cases x<;>first|rfl|cases hl
 |vec e sz n f=>cases x<;>first|rfl|cases hl
 |fz q n f=>cases x<;>first|rfl|cases hl
 |mp T l=>cases x<;>first|rfl|cases hl
 |nst e sz n F op=>cases x<;>first|rfl|cases hl
theorem qDh {nb b g k:Nat}:∀(x y:AObj),qAo w M β cp b x→β b=some g→leO nb x y→Foot w g y k→Foot w g x k:=by
 intro x y hr hg hl hk
 cases hk with
 |self=>exact .self x
 |inn e sz m G op' cur i j y k h1 hi ho hx hk=>
  cases x with
  |nst e0 sz0 n F op=>
   simp only[leO]at hl
   split at hl
   ·rename_i q1 q2
    have q1:=qC.1 q1
    have q2:=qC.1 q2
    subst q1 q2
    have key:n ()=m ()∧(∀i:Nat,i<n ()→¬opAt op i→qSL (F fun _=>i) (G fun _=>i))∧(∀i,opAt op i↔opAt op' i):=by
     match op,op',hl with
     |none,none,hl=>
      cases hl with|mk h1 h2=>cases h1 with|mk h1=>cases h2 with|mk h2=>
      exact⟨h1,fun i hi _=>h2 i hi,fun i=>Iff.rfl⟩
     |some (k,cs),some (k',cs'),hl=>
      cases hl with|mk h1 h2=>cases h1 with|mk h1=>cases h2 with|mk h2 h3=>cases h2 with|mk h2=>cases h3 with|mk h3 h4=>cases h4 with|mk h4=>
      exact⟨h1,fun i hi ho=>by cases h4 i hi with|mk q=>exact q fun e=>ho e.symm,fun i=>by show k ()=i↔k' ()=i;rw[h2]⟩
     |none,some _,hl=>cases hl
     |some _,none,hl=>cases hl
    obtain⟨e1,hrow,hop⟩:=key
    rcases hr with⟨r1,r2,r3⟩|⟨g',cur',r1,r⟩
    ·rw[hg]at r1;cases r1
    ·rw[hg]at r1
     cases r1
     have:=h1.symm.trans r.cell
     simp only[Option.some.injEq,Obj.cells.injEq]at this
     obtain⟨rfl,-,-⟩:=this
     have ho2:¬opAt op i:=fun h=>ho ((hop i).1 h)
     obtain⟨-,hv⟩:=qDe (F fun _=>i) (G fun _=>i) (fun j=>cur.getD (i*sz0+j) undef) (fun j x hj=>r.own i j x (by omega) ho2 hj) (hrow i (by omega) ho2)
     obtain⟨-,x,q1,q2⟩:=hv j y hx
     exact .inn e0 sz0 n F op cur i j x k h1 (by omega) ho2 q1 (q2 k hk)
   ·cases hl
  |vec e0 sz0 n f=>
   cases op' with
   |some _=>cases hl
   |none=>
    simp only[leO]at hl
    split at hl
    ·cases hl with|mk q1 q2=>cases q2 with|mk q2=>exact absurd hi (by rw[q2];omega)
    ·cases hl
  |dead=>cases hl
  |blk _=>cases hl
  |fz _ _ _=>cases hl
  |mp _ _=>cases hl
theorem qDV {k:Hp}(hr:HeapRel w M β cp h) (hl:leH h k):HeapRel w M (cut k.length β) cp k:=by
 unfold leH at hl
 rw[qK]at hl
 have h2:=qDf hl
 refine⟨fun b hb=>by simp[cut];omega,fun b y hb=> ?_,fun b b' o o' g g' k hb hb' hlo hlo' hg hg' hk hk'=> ?_,hr.dom⟩
 ·rcases h2 b y hb with⟨x,hx,hxy⟩|⟨hlen,hu⟩
  ·exact qNw (List.getElem?_eq_some_iff.1 hb).1 x y (hr.obj b x hx) hxy
  ·cases y with
   |dead=>trivial
   |blk _=>cases hu
   |fz _ _ _=>cases hu
   |mp _ _=>cases hu
   |vec e sz n f=>exact .inl ⟨by simp only[cut];split<;>simp[hr.out b hlen],hu⟩
   |nst e sz n F op=>exact .inl ⟨by simp only[cut];split<;>simp[hr.out b hlen],hu⟩
 ·have c1:β b=some g:=by simp only[cut]at hg;split at hg<;>simp_all
  have c2:β b'=some g':=by simp only[cut]at hg';split at hg'<;>simp_all
  rcases h2 b o hb with⟨x,hx,hxy⟩|⟨hlen,hu⟩
  ·rcases h2 b' o' hb' with⟨x',hx',hxy'⟩|⟨hlen,hu⟩
   ·exact hr.inj2 b b' x x' g g' k hx hx' (qDg hxy hlo) (qDg hxy' hlo') c1 c2 (qDh x o (hr.obj b x hx) c1 hxy hk) (qDh x' o' (hr.obj b' x' hx') c2 hxy' hk')
   ·rw[hr.out b' hlen]at c2;cases c2
  ·rw[hr.out b hlen]at c1;cases c1
theorem qIX {nb:Nat}{s:Tm}{g:Nat→Value}(hs:∀t,Rep w M β cp (lk s t) (g t)):∀(s':Tm),qXY nb s s'→∀t,Rep w M (cut nb β) cp (lk s' t) (g t)
 |[],_,t=> .c (.any _)
 |(i,v)::r,hl,t=>by
  cases hl with
  |mk h1 h2=>
   simp only[lk]
   split
   ·rename_i q
    have q:=qC.1 q
    subst q
    exact qBi nb _ _ _ (hs i) h1
   ·exact qIX hs r h2 t
structure AK (w0:World) (M0:Nat→Prop) (β0:Nat→Option Nat) (cp0:Nat→Nat) (h0:Hp) (w:World) (M:Nat→Prop) (β:Nat→Option Nat) (cp:Nat→Nat) (h:Hp) (kl:List Nat):Prop where
 keep:∀k,k<w0.heap.size→¬M0 k→w.heap[k]? =w0.heap[k]? ∧¬M k
 bk:∀b,qBL b kl=false→β0 b≠none→β b=β0 b∧cp b=cp0 b
 ext:Ext w0 M0 (qAL w0 β0 h0) w M
 own:∀g,qAL w β h g→qAL w0 β0 h0 g∨w0.heap.size≤g
theorem AK.refl:AK w M β cp h w M β cp h []:=⟨fun _ _ hM=>⟨rfl,hM⟩,fun _ _ _=>⟨rfl,rfl⟩,Ext.refl _ _ _,fun _ hg=> .inl hg⟩
theorem AK.of_after (ha:After w M β cp h w' M' β' cp' h'):AK w M β cp h w' M' β' cp' h' []:=⟨ha.keep,fun b _ hb=>ha.bk b hb,ha.ext,ha.own⟩
theorem qB0 {c b:Nat}{r:List Nat}:qBL c (b::r)=(decide (b=c)||qBL c r):=by
 simp only[qBL]
 split
 ·rename_i q;simp[qC.1 q]
 ·rename_i q
  have:¬b=c:=fun e=>by rw[qC.2 e]at q;cases q
  simp[this]
theorem qFR {b:Nat}:∀(l m:List Nat),qBL b (l++m)=(qBL b l||qBL b m)
 |[],m=>by simp[qBL]
 |x::l,m=>by
  simp only[List.cons_append,qBL]
  split
  ·simp
  ·exact qFR l m
theorem qHx {b:Nat}:∀{l m:List Nat},qKa l m=true→qBL b l=true→qBL b m=true
 |[],m,_,h=>by simp[qBL]at h
 |x::l,m,hs,h=>by
  simp only[qKa]at hs
  split at hs
  ·rename_i q
   simp only[qBL]at h
   split at h
   ·rename_i q2
    have q2:=qC.1 q2
    subst q2
    exact q
   ·exact qHx hs h
  ·cases hs
theorem AK.trans {w2:World}{M2:Nat→Prop}{β2:Nat→Option Nat}{cp2:Nat→Nat}{h2:Hp}{kl kl':List Nat}(ha:AK w M β cp h w' M' β' cp' h' kl) (hb:AK w' M' β' cp' h' w2 M2 β2 cp2 h2 kl'):AK w M β cp h w2 M2 β2 cp2 h2 (kl'++kl) where
 keep k hk hM:=by
  have h1:=ha.keep k hk hM
  have h2:=hb.keep k (Nat.lt_of_lt_of_le hk ha.ext.size) h1.2
  exact⟨h2.1.trans h1.1,h2.2⟩
 bk b hbk h0:=by
  rw[qFR,Bool.or_eq_false_iff]at hbk
  have h1:=ha.bk b hbk.2 h0
  have h2:=hb.bk b hbk.1 (by rw[h1.1];exact h0)
  exact⟨h2.1.trans h1.1,h2.2.trans h1.2⟩
 ext:=ha.ext.trans hb.ext (fun g hg=>ha.own g hg)
 own g hg:=(hb.own g hg).elim (ha.own g) fun h1=> .inr (Nat.le_trans ha.ext.size h1)
theorem AK.mono {kl kl':List Nat}(ha:AK w M β cp h w' M' β' cp' h' kl) (hs:∀b,qBL b kl=true→qBL b kl'=true):AK w M β cp h w' M' β' cp' h' kl':=
 ⟨ha.keep,fun b hb h0=>ha.bk b (by cases hm:qBL b kl with|false=>rfl|true=>rw[hs b hm]at hb;cases hb) h0,ha.ext,ha.own⟩
def qCU:List Nat→AV→AV
 |[],x=>x
 |b::r,x=>qCU r (x.kill b)
mutual
theorem qDW (b:Nat) (hβ:∀c,c≠b→β' c=β c∧cp' c=cp c):∀(x:AV) (v:Value),Rep w M β cp x v→Rep w M β' cp' (x.kill b) v
 | .any,v,_=> .c (.any v)
 | .bc p,v,hr=>by cases hr with|c h=>exact .c h
 | .b p,v,hr=>by cases hr with|c h=>exact .c h
 | .i k n,v,hr=>by cases hr with|c h=>exact .c h
 | .s x,v,hr=>by cases hr with|c h=>exact .c h
 | .nil,v,hr=>by cases hr with|c h=>exact .c h
 | .con x,v,hr=>by cases hr with|c h=>exact .c h
 | .sl sz n f,v,hr=>by cases hr with|c h=>exact .c h
 | .rp l,v,hr=>by cases hr with|c h=>exact .c h
 | .agg l,v,hr=>by
   obtain⟨cs,rfl,hL,ho⟩:=qBs hr
   have:=qCp b hβ l _ hL
   exact .agg _ cs (by simpa using this.1) (fun v hv=>ho v (by simpa using hv)) fun j x hj=>by rw[qG];exact this.2 j x hj
 | .tup l,v,hr=>by
   obtain⟨cs,rfl,hL⟩:=qBG hr
   have:=qCp b hβ l _ hL
   exact .tup _ cs (by simpa using this.1) fun j x hj=>by rw[qG];exact this.2 j x hj
 | .ptr c o,v,hr=>by
   simp only[AV.kill]
   split
   ·exact .c (.any v)
   ·rename_i q
    have hc:c≠b:=fun e=>by rw[qC.2 e]at q;cases q
    obtain⟨g,hg,rfl⟩:=qA7 hr
    exact .ptr c o g (by rw[(hβ c hc).1];exact hg)
 | .mr c,v,hr=>by
   simp only[AV.kill]
   split
   ·exact .c (.any v)
   ·rename_i q
    have hc:c≠b:=fun e=>by rw[qC.2 e]at q;cases q
    obtain⟨g,hg,rfl⟩:=qE2 hr
    exact .mr c g (by rw[(hβ c hc).1];exact hg)
 | .ept c sz i o,v,hr=>by
   simp only[AV.kill]
   split
   ·exact .c (.any v)
   ·rename_i q
    have hc:c≠b:=fun e=>by rw[qC.2 e]at q;cases q
    obtain⟨g,hg,rfl⟩:=qBH hr
    exact .ept c sz i o g (by rw[(hβ c hc).1];exact hg)
 | .own c n,v,hr=>by
   simp only[AV.kill]
   split
   ·exact .c (.any v)
   ·rename_i q
    have hc:c≠b:=fun e=>by rw[qC.2 e]at q;cases q
    rcases qW hr with⟨h0,rfl⟩|⟨g,hg,hn,rfl⟩
    ·exact .own0 c n h0
    ·rw[←(hβ c hc).2]
     exact .own c n g (by rw[(hβ c hc).1];exact hg) (by rw[(hβ c hc).2];exact hn)
 | .nn c n,v,hr=>by
   simp only[AV.kill]
   split
   ·exact .c (.any v)
   ·rename_i q
    have hc:c≠b:=fun e=>by rw[qC.2 e]at q;cases q
    obtain⟨g,hg,hn,rfl⟩:=qBK hr
    rw[←(hβ c hc).2]
    exact .nn c n g (by rw[(hβ c hc).1];exact hg) (by rw[(hβ c hc).2];exact hn)
 | .vw c sz p n,v,hr=>by
   simp only[AV.kill]
   split
   ·exact .c (.any v)
   ·rename_i q
    have hc:c≠b:=fun e=>by rw[qC.2 e]at q;cases q
    rcases qB8 hr with⟨h0,a,c',hc',rfl⟩|⟨g,hg,hn,rfl⟩
    ·exact .vw0 c sz p n a c' h0 hc'
    ·rw[←(hβ c hc).2]
     exact .vw c sz p n g (by rw[(hβ c hc).1];exact hg) (by rw[(hβ c hc).2];exact hn)
 | .ifc t x,v,hr=>by
   obtain⟨u,rfl,h⟩:=qCO hr
   exact .ifc t _ u (qDW b hβ x u h)
 | .fm _ _,v,hr=> .c (.any v)
 | .fn f l,v,hr=>by
   obtain⟨cs,rfl,hL⟩:=qDQ hr
   have:=qCp b hβ l _ hL
   exact .fn f _ cs (by simpa using this.1) fun j x hj=>by rw[qG];exact this.2 j x hj
 | .ite c x y,v,hr=>by
   have key:(c ()=true→Rep w M β cp x v)∧(c ()=false→Rep w M β cp y v):=by
    cases hr with
    |c h=>cases h with|ite _ _ _ _ h1 h2=>exact⟨fun h=> .c (h1 h),fun h=> .c (h2 h)⟩
    |ite _ _ _ _ h1 h2=>exact⟨h1,h2⟩
   exact .ite c _ _ v (fun hc=>qDW b hβ x v (key.1 hc)) (fun hc=>qDW b hβ y v (key.2 hc))
theorem qCp (b:Nat) (hβ:∀c,c≠b→β' c=β c∧cp' c=cp c):∀(l:List AV) (vs:List Value),qAs w M β cp l vs→qAs w M β' cp' (qFD b l) vs
 |[],vs,hr=>⟨hr.1,fun j x hj=>by simp[qFD]at hj⟩
 |x::l,vs,hr=>by
  match vs,hr with
  |[],hr=>exact absurd hr.1 (by simp)
  |u::vs,hr=>
   have hx:=qDW b hβ x u (by have:=hr.2 0 x rfl;simpa using this)
   have:=qCp b hβ l vs ⟨by have:=hr.1;simp at this;omega,fun j x hj=>by have:=hr.2 (j+1) x (by simpa using hj);simpa using this⟩
   refine⟨by have:=this.1;simp[qFD];omega,fun j z hj=> ?_⟩
   cases j with
   |zero=>simp[qFD]at hj;subst hj;simpa using hx
   |succ j=>have:=this.2 j z (by simpa[qFD]using hj);simpa using this
end
theorem qFS:∀(kl:List Nat) (β:Nat→Option Nat) (cp:Nat→Nat) (x:AV) (v:Value),Rep w M β cp x v→
  Rep w M (fun c=>if qBL c kl=true then β' c else β c) (fun c=>if qBL c kl=true then cp' c else cp c) (qCU kl x) v
 |[],β,cp,x,v,hr=>by simpa[qBL,qCU]using hr
 |b::r,β,cp,x,v,hr=>by
  have h1:=qDW (β':=fun c=>if c=b then β' c else β c) (cp':=fun c=>if c=b then cp' c else cp c) b (fun c hc=>by simp[hc]) x v hr
  have h2:=qFS r _ _ (x.kill b) v h1
  have e1:(fun c=>if qBL c (b::r)=true then β' c else β c)=fun c=>if qBL c r=true then β' c else if c=b then β' c else β c:=by
   funext c
   rw[qB0]
   by_cases hc:b=c
   ·subst hc;simp
   ·have hc':¬c=b:=fun e=>hc e.symm
    simp[hc,hc']
  have e2:(fun c=>if qBL c (b::r)=true then cp' c else cp c)=fun c=>if qBL c r=true then cp' c else if c=b then cp' c else cp c:=by
   funext c
   rw[qB0]
   by_cases hc:b=c
   ·subst hc;simp
   ·have hc':¬c=b:=fun e=>hc e.symm
    simp[hc,hc']
  rw[e1,e2]
  exact h2
theorem AK.rep {kl:List Nat}(ha:AK w M β cp h w' M' β' cp' h' kl) {x:AV}{v:Value}(hr:Rep w M β cp x v):Rep w' M' β' cp' (qCU kl x) v:=by
 have:=qFS (β':=β') (cp':=cp') kl β cp x v hr
 refine this.keep ha.keep fun b hb=> ?_
 split
 ·exact⟨rfl,rfl⟩
 ·rename_i q
  rw[if_neg q]at hb
  exact ha.bk b (by simpa using q) hb
theorem qFT:∀(kl:List Nat) (s:Tm) (t:Nat),lk (qCT kl s) t=qCU kl (lk s t)
 |[],s,t=>rfl
 |b::r,s,t=>by
  simp only[qCT,qCU]
  rw[qFT r]
  congr 1
  induction s with
  |nil=>rfl
  |cons p s ih=>
   simp only[List.map_cons,lk]
   split
   ·rfl
   ·exact ih
end
end Go.Abs
namespace Go.Abs
open Go
variable [Kd]
section
variable {P:Program}{E:Env}{w w':World}{M M':Nat→Prop}{β β':Nat→Option Nat}{cp cp':Nat→Nat}{h h':Hp}{o:Oper}{a:Act}{s:Tm}
def qIY (P:Program) (o:Oper) (a:Act) (w:World) (M:Nat→Prop) (β:Nat→Option Nat) (cp:Nat→Nat) (h:Hp) (K:qBm):Prop:=
 ∃v' w' M' β' cp' v h' kl,(execOp a.eval o).run P w= .ok (.value v') w'∧K v h' kl∧HeapRel w' M' β' cp' h'∧AK w M β cp h w' M' β' cp' h' kl∧Rep w' M' β' cp' v v'
theorem qCq {sz:Nat}(hsz:0<sz) (hh:HeapRel w M β cp h) {Y:AV}{y:Value}(hr:Rep w M β cp Y y) {q:Th Prop}{m:Th Nat}{g:Th Nat→List AV}(hs:src sz h Y=some (q,m,g)) (hq:q ()):
  ∃(ao:Option Addr) (c:Nat) (news:List Value),y= .slice ao (m ()) c∧news.length=m ()*sz∧(m ()=0∨∃ad,ao=some ad∧∀j u,news[j]? =some u→w.cell? (ad.add j)=some u)∧
   (∀u∈news,u.oneCell'=true)∧(∀i:Nat,i<m ()→(g fun _=>i).length=sz)∧∀(i j:Nat) (x:AV),i<m ()→(g fun _=>i)[j]? =some x→RepC w M x (news.getD (i*sz+j) undef):=by
 unfold src at hs
 split at hs
 ·rename_i sz' n f
  split at hs
  ·rename_i q1
   have q1:=qC.1 q1
   subst q1
   simp only[Option.some.injEq,Prod.mk.injEq]at hs
   obtain⟨rfl,rfl,rfl⟩:=hs
   obtain⟨ao,c,rfl,hnc,hcm,hrr⟩:=qE3 hr
   by_cases h0:n ()=0
   ·exact⟨ao,c,[],rfl,by simp[h0],.inl h0,by simp,fun i hi=>by omega,fun i j x hi=>by omega⟩
   ·obtain⟨ad,u,rfl,hM,hs,hlen,hcell,ho,hrep⟩:=hrr (by omega)
    have hdm:∀k,k<n ()*sz→k/sz<n ()∧k%sz<sz∧k/sz*sz+k%sz=k:=fun k hk=>
     ⟨Nat.div_lt_of_lt_mul (by rw[Nat.mul_comm];exact hk),Nat.mod_lt _ hsz,by rw[Nat.mul_comm];exact Nat.div_add_mod k sz⟩
    refine⟨some ad,c,(List.range (n ()*sz)).map fun k=>u (k/sz) (k%sz),rfl,by simp,.inr ⟨ad,rfl,fun j v hj=> ?_⟩,fun v hv=> ?_,hlen,fun i j x hi hj=> ?_⟩
    ·simp only[List.getElem?_map,Option.map_eq_some_iff]at hj
     obtain⟨k,hk,rfl⟩:=hj
     have hk2:=List.getElem?_eq_some_iff.1 hk
     obtain⟨hk3,hk4⟩:=hk2
     simp at hk3 hk4
     subst hk4
     obtain⟨d1,d2,d3⟩:=hdm j hk3
     have:=hcell (j/sz) (j%sz) d1 d2
     rwa [d3]at this
    ·simp only[List.mem_map,List.mem_range]at hv
     obtain⟨k,hk,rfl⟩:=hv
     obtain⟨d1,d2,d3⟩:=hdm k hk
     exact ho _ _ d1 d2
    ·have hjs:j<sz:=by rw[←hlen i hi];exact(List.getElem?_eq_some_iff.1 hj).1
     have hlt:i*sz+j<n ()*sz:=by
      have:=Nat.mul_le_mul_right sz (show i+1≤n () by omega)
      rw[Nat.succ_mul]at this
      omega
     have e1:(i*sz+j)/sz=i:=by rw[Nat.add_comm,Nat.add_mul_div_right _ _ hsz,Nat.div_eq_of_lt hjs];omega
     have e2:(i*sz+j)%sz=j:=by rw[Nat.mul_comm,Nat.mul_add_mod,Nat.mod_eq_of_lt hjs]
     have:=hrep i j x hi hj
     simpa[List.getD_eq_getElem?_getD,hlt,e1,e2]using this
  ·cases hs
 ·rename_i b n
  split at hs
  ·rename_i et sz' k f hb
   split at hs
   ·rename_i q1
    have q1:=qC.1 q1
    subst q1
    simp only[Option.some.injEq,Prod.mk.injEq]at hs
    obtain⟨rfl,rfl,rfl⟩:=hs
    have hq:n ()≤k ():=hq
    rcases qW hr with⟨h0,rfl⟩|⟨gg,hg,hn,rfl⟩
    ·rw[h0]
     exact⟨none,0,[],rfl,by simp,.inl rfl,by simp,fun i hi=>by omega,fun i j x hi=>by omega⟩
    ·rcases hh.obj b _ (qJ hb rfl)with⟨e1,_⟩|⟨g',cur,e1,e2,e3,e4,e5,e6,e7,e8,e9⟩
     ·rw[hg]at e1;cases e1
     ·rw[hg]at e1;cases e1
      have hle:n ()*sz≤cur.size:=by rw[e4];exact Nat.mul_le_mul_right _ (by omega)
      have hle2:n ()*sz≤k ()*sz:=Nat.mul_le_mul_right _ hq
      refine⟨some ⟨gg,0,none⟩,cp b,cur.toList.take (n ()*sz),rfl,by simp;omega,.inr ⟨_,rfl,fun j u hj=> ?_⟩,fun v hv=> ?_,fun i hi=>e8 i (by omega),fun i j x hi hj=> ?_⟩
      ·rw[List.getElem?_take]at hj
       split at hj
       ·rename_i hlt
        rw[addr_add,Nat.zero_add,cell_of_row e3 (by omega)]
        rw[Array.getElem?_toList]at hj
        rw[Array.getElem?_eq_getElem (by omega)]at hj
        exact hj
       ·cases hj
      ·obtain⟨j,hj,rfl⟩:=List.mem_iff_getElem.1 hv
       have hj2:j<n ()*sz:=by simp at hj;omega
       have:=e5.one j (by omega)
       simpa[show j<cur.size by omega]using this
      ·have hjs:j<sz:=by rw[←e8 i (by omega)];exact(List.getElem?_eq_some_iff.1 hj).1
       have hlt:i*sz+j<n ()*sz:=by
        have:=Nat.mul_le_mul_right sz (show i+1≤n () by omega)
        rw[Nat.succ_mul]at this
        omega
       have:=e9 i j x (by omega) hj
       rw[List.getD_eq_getElem?_getD,List.getElem?_take,if_pos hlt,←List.getD_eq_getElem?_getD,←qG]
       exact this
   ·cases hs
  ·cases hs
 ·rename_i b sz'' p n
  split at hs
  ·rename_i et sz' k f hb
   split at hs
   ·rename_i q1 q2
    have q1:=qC.1 q1
    have q2:=qC.1 q2
    subst q1 q2
    simp only[Option.some.injEq,Prod.mk.injEq]at hs
    obtain⟨rfl,rfl,rfl⟩:=hs
    have hq:p ()+n ()≤k ():=hq
    rcases qB8 hr with⟨h0,ao,c,hc,rfl⟩|⟨gg,hg,hn,rfl⟩
    ·rw[h0]
     exact⟨ao,c,[],rfl,by simp,.inl rfl,by simp,fun i hi=>by omega,fun i j x hi=>by omega⟩
    ·rcases hh.obj b _ (qJ hb rfl)with⟨e1,_⟩|⟨g',cur,e1,e2,e3,e4,e5,e6,e7,e8,e9⟩
     ·rw[hg]at e1;cases e1
     ·rw[hg]at e1;cases e1
      have hle:(p ()+n ())*sz≤cur.size:=by rw[e4];exact Nat.mul_le_mul_right _ (by omega)
      have hle2:(p ()+n ())*sz≤k ()*sz:=Nat.mul_le_mul_right _ hq
      rw[Nat.add_mul]at hle hle2
      have hge:∀j,j<n ()*sz→((cur.toList.drop (p ()*sz)).take (n ()*sz))[j]? =cur[p ()*sz+j]? :=by
       intro j hj
       rw[List.getElem?_take,if_pos hj,List.getElem?_drop,Array.getElem?_toList]
      refine⟨some ⟨gg,p ()*sz,none⟩,cp b-p (),(cur.toList.drop (p ()*sz)).take (n ()*sz),rfl,by simp;omega,.inr ⟨_,rfl,fun j u hj=> ?_⟩,fun v hv=> ?_,fun i hi=>e8 (i+p ()) (by omega),fun i j x hi hj=> ?_⟩
      ·have hj2:j<n ()*sz:=by have:=(List.getElem?_eq_some_iff.1 hj).1;simp at this;omega
       rw[hge j hj2]at hj
       rw[addr_add,cell_of_row e3 (by omega)]
       rw[Array.getElem?_eq_getElem (by omega)]at hj
       exact hj
      ·obtain⟨j,hj,rfl⟩:=List.mem_iff_getElem.1 hv
       have hj2:j<n ()*sz:=by simp at hj;omega
       have h1:=hge j hj2
       rw[List.getElem?_eq_getElem hj,Array.getElem?_eq_getElem (by omega)]at h1
       have:=e5.one (p ()*sz+j) (by omega)
       rw[Array.getD_eq_getD_getElem?,Array.getElem?_eq_getElem (by omega)]at this
       rw[Option.some.inj h1]
       simpa using this
      ·have hjs:j<sz:=by rw[←e8 _ (by omega:i+p ()<k ())];exact(List.getElem?_eq_some_iff.1 hj).1
       have hlt:i*sz+j<n ()*sz:=by
        have:=Nat.mul_le_mul_right sz (show i+1≤n () by omega)
        rw[Nat.succ_mul]at this
        omega
       have:=e9 (i+p ()) j x (by omega) hj
       rw[List.getD_eq_getElem?_getD,hge _ hlt]
       rwa [Array.getD_eq_getD_getElem?,show(i+p ())*sz+j=p ()*sz+(i*sz+j) by rw[Nat.add_mul];omega]at this
   ·cases hs
  ·cases hs
 ·simp only[Option.some.injEq,Prod.mk.injEq]at hs
  obtain⟨rfl,rfl,rfl⟩:=hs
  exact⟨none,0,[],qAJ hr,by simp,.inl rfl,by simp,fun i hi=>absurd hi (Nat.not_lt_zero i),fun i j x hi=>absurd hi (Nat.not_lt_zero i)⟩
 ·cases hs
theorem run_append_nil (base:Nat) (t ty e:TypeId) (i:TypeInfo) (size:Nat) (ht:P.underlying t=some (.slice e)) (hi:P.info? e=some i)
  (v:Value) (n:Nat) (xs:List Value) (hown:w.ownsRow base e size v n xs) (c:Nat):(Builtin.append_ #[t,t] ty #[v,.slice none 0 c]).run P w= .ok v w:=by
 rcases hown.2 with⟨rfl,rfl⟩|⟨g,cap,cur,rfl,_,_,hnc,_⟩
 ·simp[Builtin.append_,run_underlying ht,sizeOf,typeInfo,hi,Builtin.lenOf,Builtin.firstCells]
 ·simp[Builtin.append_,run_underlying ht,sizeOf,typeInfo,hi,Builtin.lenOf,Builtin.firstCells,hnc,storeCells]
def SpZ (w:World) (v:Value) (e:TypeId) (sz n:Nat):Prop:=qEq w v e sz n fun j u=>KdV e j u
theorem qRJ {e:TypeId}{i:TypeInfo}{zv:Value}(hkd:qXy P e) (i1:P.info? e=some i) (i3:i.zero=some zv):∀j,j<zv.cells.size→KdV e j (zv.cells.getD j undef):=by
 intro j _ _
 rw[hkd i zv i1 i3,Array.getD_eq_getD_getElem?,List.getD_eq_getElem?_getD,Array.getElem?_toList]
theorem qA3 {t ty e:TypeId}{sz bytes:Nat}{z:List AV}(hT:qE4 P t (.slice e sz bytes z)) (hz:z.length=sz) {v:Value}{n:Nat}{xs:List Value}(hown:w.ownsRow 0 e sz v n xs)
  {ao:Option Addr}{m c:Nat}{news:List Value}(hl:news.length=m*sz) (hc:m=0∨∃ad,ao=some ad∧∀j u,news[j]? =some u→w.cell? (ad.add j)=some u) (h1:∀u∈news,u.oneCell'=true)
  (h63:n+m≤maxLen) (hb:(n+m)*bytes≤140737488355328) (hsp:SpZ w v e sz n):
  ∃v' w',(Builtin.append_ #[t,t] ty #[v,.slice ao m c]).run P w= .ok v' w'∧w'.ownsRow 0 e sz v' (n+m) (xs++news)∧w.grownBy w' v.ownBlock∧(v'.ownBlock=v.ownBlock∨v'.ownBlock=some w.heap.size)∧SpZ w' v' e sz (n+m):=by
 obtain⟨hu,hsz,_,hi,hby,_,hkd⟩:=hT
 obtain⟨i,i1,i2,zv,i3,i4,_⟩:=hi
 have ib:i.bytes=bytes:=by rw[i1]at hby;simpa using hby
 have hzs:zv.cells.size=sz:=by rw[←hz,←i4];simp
 have some_:∀ad:Addr,ao=some ad→(∀j u,news[j]? =some u→w.cell? (ad.add j)=some u)→∃v' w',(Builtin.append_ #[t,t] ty #[v,.slice ao m c]).run P w= .ok v' w'∧w'.ownsRow 0 e sz v' (n+m) (xs++news)∧w.grownBy w' v.ownBlock∧(v'.ownBlock=v.ownBlock∨v'.ownBlock=some w.heap.size)∧SpZ w' v' e sz (n+m):=by
  rintro ad rfl hcell
  obtain⟨v',w',r1,r2,r3,_,r5⟩:=run_append_own_at (P:=P) w 0 t ty e i zv sz bytes hu i1 i3 i2 ib hzs hsz v n xs hown ad m c news hl hcell h1 h63 hb (Nat.zero_le _)
  exact⟨v',w',r1,r2,r3,r5,qID (P:=P) w 0 t ty e i zv sz bytes hu i1 i3 i2 ib hzs v n xs hown ad m c news hl hcell h1 h63 hb _ (fun j hj=>qRJ hkd i1 i3 j (by rw[hzs];exact hj)) hsp r1⟩
 rcases hc with rfl|⟨ad,ha,hcell⟩
 ·have hn:news=[]:=List.eq_nil_of_length_eq_zero (by simpa using hl)
  subst hn
  cases ao with
  |none=>exact⟨v,w,run_append_nil 0 t ty e i sz hu i1 v n xs hown c,by simpa using hown,⟨rfl,rfl,rfl,Nat.le_refl _,fun _ _ _=>rfl⟩,.inl rfl,by simpa using hsp⟩
  |some ad=>exact some_ ad rfl (fun j u hj=>by simp at hj)
 ·exact some_ ad ha hcell
theorem qCa:∀(sz:Nat) (c:Th Bool) (l m:List AV),(qBB sz c l m).length=sz
 |0,_,_,_=>rfl
 |n+1,c,l,m=>by simp[qBB,qCa n]
theorem qBz:∀(sz:Nat) (c:Th Bool) (l m:List AV) (j:Nat) (x:AV),(qBB sz c l m)[j]? =some x→j<sz∧x=AV.pick c (l.getD j .any) (m.getD j .any)
 |0,_,_,_,_,_,h=>by simp[qBB]at h
 |n+1,c,l,m,0,x,h=>by simp[qBB,qAt]at h;exact⟨by omega,by rw[←h];simp[List.getD_eq_getElem?_getD]⟩
 |n+1,c,l,m,j+1,x,h=>by
  have:=qBz n c (qAI 1 l) (qAI 1 m) j x (by simpa[qBB]using h)
  refine⟨by omega,this.2.trans ?_⟩
  simp[qAr,List.getD_eq_getElem?_getD]
theorem qDi {e:TypeId}{sz N:Nat}{v':Value}{xs:List Value}(hown:w'.ownsRow 0 e sz v' N xs) (hM':∀k,v'.ownBlock=some k→M' k) {b:Nat}(hβ:β' b=v'.ownBlock)
  (hcp:∀ad n c,v'= .slice (some ad) n c→cp' b=c) (h1:∀u∈xs,u.oneCell'=true) {F:Th Nat→List AV}(hlen:∀i:Nat,i<N→(F fun _=>i).length=sz)
  (hF:∀(i j:Nat) (x:AV),i<N→(F fun _=>i)[j]? =some x→RepC w' M' x (xs.getD (i*sz+j) undef)) {n:Th Nat}(hn:n ()=N) (hsp:SpZ w' v' e sz N):
  qAo w' M' β' cp' b (.vec e sz n F)∧Rep w' M' β' cp' (.own b n) v':=by
 obtain⟨hxl,hv⟩:=hown
 rcases hv with⟨rfl,h0⟩|⟨g,cap,cur,rfl,_,hg,hnc,hcm,hcs,htake⟩
 ·exact⟨.inl ⟨by rw[hβ];rfl,by omega⟩,.own0 b n (by omega)⟩
 ·have hc:=hcp _ _ _ rfl
  have hb:β' b=some g:=by rw[hβ];rfl
  subst hn
  refine⟨.inr ⟨g,cur,hb,hM' g rfl,hg,by rw[hc];exact hcs,⟨fun k hk=> ?_,fun i j q1 q2 q3=>hsp g cap cur rfl hg i j q1 (by omega) q3⟩,by omega,by omega,hlen,fun i j x hi hj=> ?_⟩, ?_⟩
  ·have:cur.getD k undef=xs.getD k undef:=by
    rw[qG,←htake,List.getD_eq_getElem?_getD,List.getD_eq_getElem?_getD,List.getElem?_take,if_pos hk]
   rw[this,List.getD_eq_getElem?_getD,List.getElem?_eq_getElem (by omega)]
   exact h1 _ (List.getElem_mem _)
  ·have hjs:j<sz:=by rw[←hlen i hi];exact(List.getElem?_eq_some_iff.1 hj).1
   have hlt:i*sz+j<n ()*sz:=by
    have:=Nat.mul_le_mul_right sz (show i+1≤n () by omega)
    rw[Nat.succ_mul]at this
    omega
   have:=hF i j x hi hj
   rw[←htake,List.getD_eq_getElem?_getD,List.getElem?_take,if_pos hlt,←List.getD_eq_getElem?_getD,←qG]at this
   exact this
  ·rw[←hc]
   exact .own b n g hb (by omega)
theorem qDj {b:Nat}:∀(h:Hp) (n c:Nat) (o:AObj),(qAz b n h)[c]? =some o→∃x,h[c]? =some x∧(n+c=b∧o=x∨n+c≠b∧o=x.kill b)
 |[],_,_,_,hc=>by simp[qAz]at hc
 |x::r,n,0,o,hc=>by
  simp only[qAz,List.getElem?_cons_zero,Option.some.injEq]at hc
  refine⟨x,rfl, ?_⟩
  split at hc
  ·rename_i q;exact .inl ⟨by have:=qC.1 q;omega,hc.symm⟩
  ·rename_i q;exact .inr ⟨fun e=>(by rw[qC.2 (show n=b by omega)]at q;cases q),hc.symm⟩
 |x::r,n,c+1,o,hc=>by
  simp only[qAz,List.getElem?_cons_succ]at hc
  obtain⟨y,hy,h1⟩:=qDj r (n+1) c o hc
  exact⟨y,by simpa using hy,by rw[show n+(c+1)=n+1+c by omega];exact h1⟩
theorem qDk {b:Nat}:∀(h:Hp) (n:Nat),(qAz b n h).length=h.length
 |[],_=>rfl
 |x::r,n=>by simp[qAz,qDk r]
theorem qB1 {b:Nat}(x:AObj):(x.kill b).live=x.live:=by cases x<;>rfl
theorem qFU {b c:Nat}(hβ:∀c,c≠b→β' c=β c∧cp' c=cp c) (hc:c≠b) {x:AObj}(hr:qAo w M β cp c x):qAo w M β' cp' c (x.kill b):=by
 cases x with
 |dead=>trivial
 |blk cs=>
  obtain⟨g,cur,t,h1,h2,h3,h4,h5⟩:=hr
  exact⟨g,cur,t,(hβ c hc).1.trans h1,h2,h3,qCp b hβ _ _ h4,⟨h5.1,by rw[(hβ c hc).2];exact h5.2⟩⟩
 |vec e sz n f=>
  rcases hr with⟨h1,h2⟩|⟨g,cur,h1,h2,h3,h4,h5,h6,h7,h8⟩
  ·exact .inl ⟨(hβ c hc).1.trans h1,h2⟩
  ·exact .inr ⟨g,cur,(hβ c hc).1.trans h1,h2,h3,by rw[(hβ c hc).2];exact h4,by rw[(hβ c hc).2];exact h5,by rw[(hβ c hc).2];exact h6,by rw[(hβ c hc).2];exact h7,h8⟩
 |fz q n f=>
  obtain⟨g,cur,t,fr,h1,h2,h3,h4,h5,h6⟩:=hr
  exact⟨g,cur,t,fr,(hβ c hc).1.trans h1,h2,h3,h4,⟨h5.1,by rw[(hβ c hc).2];exact h5.2⟩,h6⟩
 |mp T l=>
  obtain⟨g,es,clk,h1,h2,h3,h4⟩:=hr
  exact⟨g,es,clk,(hβ c hc).1.trans h1,h2,h3,h4⟩
 |nst e sz n F op=>
  rcases hr with⟨h1,h2,h3⟩|⟨g,cur,h1,r⟩
  ·exact .inl ⟨(hβ c hc).1.trans h1,h2,by rw[h3];rfl⟩
  ·refine .inr ⟨g,cur,(hβ c hc).1.trans h1, ?_⟩
   rw[(hβ c hc).2]
   exact r.opMap _ (qCp b hβ)
theorem qFV {b g k:Nat}{x:AObj}(hk:Foot w g (x.kill b) k):Foot w g x k:=by
 cases x with
 |nst e sz n F op=>
  exact qBQ hk
 |_=>cases hk;exact .self _
theorem qKc {c:Nat}{x:AObj}(hr:qAo w M β cp c x) (hw:∀k,k<w.heap.size→¬M k→w'.heap[k]? =w.heap[k]? ∧¬M' k) (hg:∀g k,β c=some g→Foot w g x k→w'.heap[k]? =w.heap[k]? ∧(M k→M' k)):
 qAo w' M' β cp c x:=hr.keep hw (fun _ _=>⟨rfl,rfl⟩) id hg
theorem capOf (v:Value):∃c,∀ad n c',v= .slice (some ad) n c'→c=c':=by
 cases v with
 |slice a n c=>exact⟨c,fun _ _ _ h=>by injection h⟩
 |_=>exact⟨0,fun _ _ _ h=>by cases h⟩
theorem qFW (hh:HeapRel w M β cp h) {b:Nat}{o:AObj}{g:Nat}(hb:h[b]? =some o) (ho:o.live=true) (hg:β b=some g):g<w.heap.size∧M g:=by
 exact(hh.foot hb ho hg (.self o)).symm
theorem qLi {e:TypeId}{sz N:Nat}{v':Value}{xs:List Value}(hown:w'.ownsRow 0 e sz v' N xs) {k:Nat}(hk:v'.ownBlock=some k):k<w'.heap.size:=by
 obtain⟨hxl,hv⟩:=hown
 rcases hv with⟨rfl,h0⟩|⟨g,cap,cur,rfl,_,hg,_⟩
 ·cases hk
 ·cases hk;exact(Array.getElem?_eq_some_iff.1 hg).1
section
open Go.Lib
variable {w:World}
theorem qHy (s:ByteArray):byteCells s=strCells s:=by
 unfold byteCells strCells;rfl
theorem qCV {t u e:TypeId}(ty:TypeId) (ht:P.underlying t=some (.slice e)) (hu:P.underlying u=some .string) {v:Value}{n:Nat}{xs:List Value}(hown:w.ownsRow 0 e 1 v n xs)
  {i:TypeInfo}{zv:Value}(i1:P.info? e=some i) (i2:i.size=1) (i3:i.zero=some zv) (hz1:zv.cells.size=1) (i4:i.bytes=1) (s:ByteArray) (h63:n+s.size≤maxLen) (hb:n+s.size≤140737488355328) (hkd:qXy P e) (hsp:SpZ w v e 1 n):
  ∃v' w',(Builtin.append_ #[t,u] ty #[v,.string s]).run P w= .ok v' w'∧w'.ownsRow 0 e 1 v' (n+s.size) (xs++strCells s)∧w.grownBy w' v.ownBlock∧(v'.ownBlock=v.ownBlock∨v'.ownBlock=some w.heap.size)∧SpZ w' v' e 1 (n+s.size):=by
 have hm:maxLen=9223372036854775807:=rfl
 have hxl:xs.length=n:=by simpa using hown.1
 have hlen:(xs++strCells s).length=(n+s.size)*1:=by rw[List.length_append,hxl,strCells_length,Nat.mul_one]
 have grown:∀(old:Nat),old<n+s.size→∀(row:Option Nat),
   (w.drew.alloc (.cells ((xs++strCells s).toArray++Builtin.zeroCells zv.cells (grownCap w (n+s.size) old e-(n+s.size))) e)).ownsRow 0 e 1
     (.slice (some ⟨w.heap.size,0,none⟩) (n+s.size) (grownCap w (n+s.size) old e)) (n+s.size) (xs++strCells s)∧
   w.grownBy (w.drew.alloc (.cells ((xs++strCells s).toArray++Builtin.zeroCells zv.cells (grownCap w (n+s.size) old e-(n+s.size))) e)) row∧
   SpZ (w.drew.alloc (.cells ((xs++strCells s).toArray++Builtin.zeroCells zv.cells (grownCap w (n+s.size) old e-(n+s.size))) e)) (.slice (some ⟨w.heap.size,0,none⟩) (n+s.size) (grownCap w (n+s.size) old e)) e 1 (n+s.size):=by
  intro old ho row
  have hge:=grownCap_ge w (n+s.size) old e
  have hcm:grownCap w (n+s.size) old e≤maxLen:=grownCap_le_maxLen w (n+s.size) old e h63
  refine⟨⟨hlen,.inr ⟨w.heap.size,_,_,rfl,Nat.zero_le _,heap_alloc_new w.drew _,hge,hcm, ?_, ?_⟩⟩,⟨rfl,rfl,rfl,by simp,fun k hk _=>heap_alloc_old w.drew _ k hk⟩,qFE w.drew hz1 (by rw[List.size_toArray,hlen]) (fun j hj=>qRJ hkd i1 i3 j (by omega))⟩
  ·simp only[Array.size_append,List.size_toArray,size_zeroCells,hz1,hlen]
   omega
  ·simp only[Array.toList_append]
   rw[←hlen]
   exact List.take_left
 have hsrc:Src P i.size u (.string s) s.size (strCells s) w:=by rw[i2,←qHy];exact Src.ofString w hu s
 rcases hown.2 with⟨rfl,rfl⟩|⟨g,cap,cur,rfl,hbg,hg,hnc,hcm,hcs,htake⟩
 ·have hx:xs=[]:=List.eq_nil_of_length_eq_zero hxl
  subst hx
  by_cases h0:s.size=0
  ·have hn:strCells s=[]:=List.eq_nil_of_length_eq_zero (by rw[strCells_length];exact h0)
   refine⟨.slice none 0 0,w, ?_,by rw[h0,hn];exact World.ownsRow_nil w 0 e 1,⟨rfl,rfl,rfl,Nat.le_refl _,fun _ _ _=>rfl⟩,.inl rfl,fun g cap cur hv=>by cases hv⟩
   have hf:=run_firstCells_string (P:=P) w 1 s
   rw[h0]at hf
   simp[Builtin.append_,run_underlying ht,run_underlying hu,sizeOf,typeInfo,i1,i2,Builtin.lenOf,h0,hf]
  ·have hr:=run_append_grow_src (P:=P) w t u ty e i zv ht i1 i3 none 0 0 [] (by simp[Builtin.firstCells]) (.string s) s.size (strCells s) hsrc (by omega) (by omega) (by rw[i4];exact growslice_fits (by omega) (by omega))
   have hgr:=grown 0 (by omega) (Value.ownBlock (.slice none 0 0))
   exact⟨_,_,hr,hgr.1,hgr.2.1,.inr rfl,hgr.2.2⟩
 ·by_cases hroom:n+s.size≤cap
  ·have hcs':cur.size=cap:=by simpa using hcs
   have hr:=run_append_room_string (P:=P) w t u ty e i ht hu i1 i2 g n cap cur hg s hroom (by omega)
   refine⟨_,_,hr,⟨hlen,.inr ⟨g,cap,_,rfl,hbg,setRow_heap w g cur _ e _ hg,hroom,hcm, ?_, ?_⟩⟩,⟨rfl,rfl,rfl,by simp,fun k _ hk=>setRow_other w g k _ (fun e=>hk (by simp[Value.ownBlock,e]))⟩,.inl rfl, ?_⟩
   ·simp only[List.size_toArray,List.length_append,List.length_take,List.length_drop,Array.length_toList,strCells_length]
    omega
   ·have ht':cur.toList.take n=xs:=by simpa using htake
    rw[ht',←hlen]
    exact List.take_left
   ·intro g' cap' cur' hv hg' i0 j0 h0 hi1 h2
    simp only[Value.slice.injEq,Option.some.injEq,Addr.mk.injEq,and_true,true_and]at hv
    obtain⟨rfl,rfl⟩:=hv
    rw[setRow_heap w g cur _ e _ hg]at hg'
    simp only[Option.some.injEq,Obj.cells.injEq,and_true]at hg'
    subst hg'
    have hold:=hsp g cap cur rfl hg i0 j0 (by omega) hi1 h2
    have hll:(cur.toList.take n++strCells s).length=n+s.size:=by
     rw[List.length_append,List.length_take,strCells_length,Array.length_toList];omega
    have:(cur.toList.take n++strCells s++cur.toList.drop (n+s.size)).toArray.getD (i0*1+j0) undef=cur.getD (i0*1+j0) undef:=by
     rw[Array.getD_eq_getD_getElem?,Array.getD_eq_getD_getElem?,List.getElem?_toArray,List.getElem?_append_right (by omega),hll,List.getElem?_drop,Array.getElem?_toList]
     congr 2
     omega
    first|(rw[this];exact hold)|(rw[strCells_length]at*;rw[this];exact hold)
  ·have holds:∀j u,xs[j]? =some u→w.cell? ((⟨g,0,none⟩:Addr).add j)=some u:=hown.cells (g:=g) rfl
   have hold:=run_firstCells_some (P:=P) w.drew i.size n ⟨g,0,none⟩ n cap xs (by rw[i2];simpa using hxl) (by simpa using holds)
   have hr:=run_append_grow_src (P:=P) w t u ty e i zv ht i1 i3 (some ⟨g,0,none⟩) n cap xs hold (.string s) s.size (strCells s) hsrc (by omega) (by omega) (by rw[i4];exact growslice_fits (by omega) (by omega))
   have hgr:=grown cap (by omega) (Value.ownBlock (.slice (some ⟨g,0,none⟩) n cap))
   exact⟨_,_,hr,hgr.1,hgr.2.1,.inr rfl,hgr.2.2⟩
theorem qIZ (s:ByteArray) {i:Nat}(h:i<s.size):(strCells s).getD i undef= .int .u8 (qBo s (i:Nat)):=by
 have hd:i<s.data.size:=h
 unfold strCells qBo
 rw[List.getD_eq_getElem?_getD,List.getElem?_map,Array.getElem?_toList,Array.getElem?_eq_getElem hd]
 simp[Array.getD,h]
theorem qE8 (s:ByteArray):∀u∈strCells s,u.oneCell'=true:=strCells_oneCell s
end
theorem qEz (hh:HeapRel w M β cp h) {x:Operand}{b e sz:Nat}{n k m:Th Nat}{f g:Th Nat→List AV}{news:List Value}{K:qBm}(hx0:Rep w M β cp (.own b n) (a.eval x)) (hb0:nth .dead h b= .vec e sz k f) (hnk:n ()≤k ()) (hkn:Kd.on e=false∨k ()≤n ())
  (hn1:∀u∈news,u.oneCell'=true) (hgrep:∀(i j:Nat) (x:AV),i<m ()→(g fun _=>i)[j]? =some x→RepC w M x (news.getD (i*sz+j) undef))
  (run:∀xs,w.ownsRow 0 e sz (a.eval x) (n ()) xs→SpZ w (a.eval x) e sz (n ())→∃v' w',(execOp a.eval o).run P w= .ok (.value v') w'∧w'.ownsRow 0 e sz v' (n ()+m ()) (xs++news)∧w.grownBy w' (a.eval x).ownBlock∧(v'.ownBlock=(a.eval x).ownBlock∨v'.ownBlock=some w.heap.size)∧SpZ w' v' e sz (n ()+m ()))
  (hK:K (.own b fun _=>n ()+m ()) (qAz b 0 (h.set b (.vec e sz (fun _=>n ()+m ()) fun j=>qBB sz (fun _=>decide (j ()<n ())) (f j) (g fun _=>j ()-n ())))) [b]):qIY P o a w M β cp h K:=by
 have hb:=qJ hb0 rfl
 have hobj:=hh.obj b _ hb
 obtain⟨xs,hown,hx1,hxrep⟩:∃xs,w.ownsRow 0 e sz (a.eval x) (n ()) xs∧(∀u∈xs,u.oneCell'=true)∧∀(i j:Nat) (z:AV),i<n ()→(f fun _=>i)[j]? =some z→RepC w M z (xs.getD (i*sz+j) undef):=by
  rcases qW hx0 with⟨h0,hv0⟩|⟨g0,hg0,hn0,hv0⟩
  ·refine⟨[],⟨by simp[h0],.inl ⟨hv0,h0⟩⟩,by simp,fun i j z hi=>by omega⟩
  ·rcases hobj with⟨e1,_⟩|⟨g',cur,e1,e2,e3,e4,e5,e6,e7,e8,e9⟩
   ·rw[hg0]at e1;cases e1
   ·rw[hg0]at e1;cases e1
    have hle:n ()*sz≤cur.size:=by rw[e4];exact Nat.mul_le_mul_right _ (by omega)
    have hle2:n ()*sz≤k ()*sz:=Nat.mul_le_mul_right _ hnk
    refine⟨cur.toList.take (n ()*sz),⟨by simp;omega,.inr ⟨g0,cp b,cur,hv0,Nat.zero_le _,e3,by omega,e7,e4,rfl⟩⟩,fun u hu=> ?_,fun i j z hi hj=> ?_⟩
    ·obtain⟨j,hj,rfl⟩:=List.mem_iff_getElem.1 hu
     have hj2:j<n ()*sz:=by simp at hj;omega
     have:=e5.one j (by omega)
     simpa[show j<cur.size by omega]using this
    ·have hjs:j<sz:=by rw[←e8 i (by omega)];exact(List.getElem?_eq_some_iff.1 hj).1
     have hlt:i*sz+j<n ()*sz:=by
      have:=Nat.mul_le_mul_right sz (show i+1≤n () by omega)
      rw[Nat.succ_mul]at this
      omega
     have:=e9 i j z (by omega) hj
     rw[List.getD_eq_getElem?_getD,List.getElem?_take,if_pos hlt,←List.getD_eq_getElem?_getD,←qG]
     exact this
 have hsp0:SpZ w (a.eval x) e sz (n ()):=by
  intro g1 cap1 cur1 hv1 hg1 i j q1 q2 q3
  rcases qW hx0 with⟨_,hv0⟩|⟨g0,hg0,hn0,hv0⟩
  ·rw[hv0]at hv1;cases hv1
  ·rw[hv0]at hv1
   cases hv1
   rcases hobj with⟨e1,_⟩|⟨g',cur,e1,e2,e3,e4,e5,e6,e7,e8,e9⟩
   ·rw[hg0]at e1;cases e1
   ·rw[hg0]at e1;cases e1
    rw[hg1]at e3;cases e3
    exact hkn.elim (fun h5 h6=>by rw[h5]at h6;cases h6) fun hkn=>e5.sp i j (by omega) q2 q3
 obtain⟨v',w',r1,r2,r3,r4,r5⟩:=run xs hown hsp0
 have hvb:∀g0,(a.eval x).ownBlock=some g0→β b=some g0:=by
  intro g0 hg0
  rcases qW hx0 with⟨_,hv0⟩|⟨g1,hg1,_,hv0⟩
  ·rw[hv0]at hg0;cases hg0
  ·rw[hv0]at hg0;cases hg0;exact hg1
 have hkeep:∀k,k<w.heap.size→¬M k→w'.heap[k]? =w.heap[k]? ∧¬(M k∨v'.ownBlock=some k):=by
  intro k hk hM
  refine⟨r3.block k hk fun e=>hM (qFW hh hb rfl (hvb k e.symm)).2,fun h=> ?_⟩
  rcases h with h|h
  ·exact hM h
  ·rcases r4 with r4|r4
   ·exact hM (qFW hh hb rfl (hvb k (by rw[←r4];exact h))).2
   ·rw[r4]at h;cases h;omega
 obtain⟨cap,hcap⟩:=capOf v'
 have hβ':∀c,c≠b→(qZ β b v'.ownBlock) c=β c∧(qAk cp b cap) c=cp c:=fun c hc=>by simp[qZ,qAk,hc]
 have hnew:∀g0,v'.ownBlock=some g0→β b=some g0∨w.heap.size≤g0:=by
  intro g0 hg0
  rcases r4 with r4|r4
  ·exact .inl (hvb g0 (by rw[←r4];exact hg0))
  ·rw[r4]at hg0;cases hg0;exact .inr (Nat.le_refl _)
 have hobj':=qDi (M':=fun k=>M k∨v'.ownBlock=some k) (β':=qZ β b v'.ownBlock) (cp':=qAk cp b cap) (b:=b) r2 (fun k hk=> .inr hk) (by simp[qZ]) (fun ad n c hv=>by simp[qAk,hcap ad n c hv])
  (by intro u hu;rcases List.mem_append.1 hu with hu|hu;exact hx1 u hu;exact hn1 u hu)
  (F:=fun j=>qBB sz (fun _=>decide (j ()<n ())) (f j) (g fun _=>j ()-n ())) (fun i hi=>qCa _ _ _ _)
  (fun i j z hi hj=>by
    obtain⟨hjs,rfl⟩:=qBz _ _ _ _ _ _ hj
    have hxl:xs.length=n ()*sz:=hown.1
    refine qBy _ _ (fun hc=> ?_) (fun hc=> ?_)
    ·have hi2:i<n ():=by simpa using hc
     have hlt:i*sz+j<xs.length:=by
      have:=Nat.mul_le_mul_right sz (show i+1≤n () by omega)
      rw[Nat.succ_mul]at this
      omega
     rw[List.getD_eq_getElem?_getD (l:=xs++news),List.getElem?_append_left hlt,←List.getD_eq_getElem?_getD]
     rw[List.getD_eq_getElem?_getD]
     cases hf:(f fun _=>i)[j]? with
     |none=>exact .any _
     |some z=>exact(hxrep i j z hi2 hf).keep hkeep
    ·have hi2:¬i<n ():=by simpa using hc
     have e1:i*sz+j-xs.length=(i-n ())*sz+j:=by rw[hxl,Nat.sub_mul];have:=Nat.mul_le_mul_right sz (show n ()≤i by omega);omega
     have hge:xs.length≤i*sz+j:=by rw[hxl];have:=Nat.mul_le_mul_right sz (show n ()≤i by omega);omega
     rw[List.getD_eq_getElem?_getD (l:=xs++news),List.getElem?_append_right hge,e1,←List.getD_eq_getElem?_getD]
     rw[List.getD_eq_getElem?_getD]
     cases hf:(g fun _=>i-n ())[j]? with
     |none=>exact .any _
     |some z=>exact(hgrep (i-n ()) j z (by omega) hf).keep hkeep) (n:=fun _=>n ()+m ()) rfl r5
 have hlen':(qAz b 0 (h.set b (.vec e sz (fun _=>n ()+m ()) fun j=>qBB sz (fun _=>decide (j ()<n ())) (f j) (g fun _=>j ()-n ())))).length=h.length:=by rw[qDk];simp
 have hget:∀c o',(qAz b 0 (h.set b (.vec e sz (fun _=>n ()+m ()) fun j=>qBB sz (fun _=>decide (j ()<n ())) (f j) (g fun _=>j ()-n ()))))[c]? =some o'→
   (c=b∧o'= .vec e sz (fun _=>n ()+m ()) fun j=>qBB sz (fun _=>decide (j ()<n ())) (f j) (g fun _=>j ()-n ()))∨(c≠b∧∃y,h[c]? =some y∧o'=y.kill b):=by
  intro c o' hc
  obtain⟨y,hy,h1⟩:=qDj _ _ _ _ hc
  rw[List.getElem?_set]at hy
  rcases h1 with⟨h1,rfl⟩|⟨h1,rfl⟩
  ·rw[if_pos (by omega)]at hy
   split at hy
   ·exact .inl ⟨by omega,by cases hy;rfl⟩
   ·cases hy
  ·rw[if_neg (by omega)]at hy
   exact .inr ⟨by omega,y,hy,rfl⟩
 have same:∀c y g0 k,c≠b→h[c]? =some y→y.live=true→β c=some g0→Foot w g0 y k→w'.heap[k]? =w.heap[k]? :=fun c y g0 k hne hy hly hg0 hk=>
  r3.block k (hh.foot hy hly hg0 hk).2 fun e=>hh.ne hne hy hb hly rfl hg0 (hvb k e.symm) hk rfl
 have back:∀c y g0 k,c≠b→h[c]? =some y→y.live=true→β c=some g0→Foot w' g0 (y.kill b) k→Foot w g0 y k:=fun c y g0 k hne hy hly hg0 hk=>
  qAP (hh.obj c y hy) hkeep hg0 (fun k hk=>⟨same c y g0 k hne hy hly hg0 hk,.inl⟩) (qFV hk)
 refine⟨v',w',fun k=>M k∨v'.ownBlock=some k,qZ β b v'.ownBlock,qAk cp b cap,_,_,[b],r1,hK,⟨fun c hc=> ?_,fun c o' hc=> ?_,fun c c' o1 o2 g1 g2 k hc hc' hl1 hl2 hg hg' hk1 hk2=> ?_,hh.dom.go hkeep fun k hk=>hk.elim (fun h1=>Nat.lt_of_lt_of_le (hh.dom.1 k h1) r3.size) fun h1=>qLi r2 h1⟩,⟨hkeep,fun c hc h0=> ?_,⟨r3.os,r3.tape,r3.output,r3.size,fun k hk hB=> ?_,fun k _ _ hk=> .inl hk,fun k hk=> ?_⟩, ?_⟩,hobj'.2⟩
 ·have hbl:b<h.length:=(List.getElem?_eq_some_iff.1 hb).1
  rw[hlen']at hc
  rw[(hβ' c (by omega)).1]
  exact hh.out c hc
 ·rcases hget c o' hc with⟨rfl,rfl⟩|⟨hne,y,hy,rfl⟩
  ·exact hobj'.1
  ·by_cases hly:y.live=true
   ·exact qFU hβ' hne (qKc (hh.obj c y hy) hkeep fun g0 k hg0 hk=>⟨same c y g0 k hne hy hly hg0 hk,.inl⟩)
   ·cases y<;>first|trivial|exact absurd rfl hly
 ·have key:∀c y g1 g2,c≠b→h[c]? =some y→y.live=true→(qZ β b v'.ownBlock) c=some g1→(qZ β b v'.ownBlock) b=some g2→Foot w' g1 (y.kill b) k→k=g2→False:=by
   intro c y g1 g2 hne hy hly h1 h2 hk e
   rw[(hβ' c hne).1]at h1
   have h2:v'.ownBlock=some g2:=by simpa[qZ]using h2
   have hk:=back c y g1 k hne hy hly h1 hk
   rcases hnew g2 h2 with h3|h3
   ·exact hh.ne hne hy hb hly rfl h1 h3 hk e
   ·have:=(hh.foot hy hly h1 hk).2;omega
  rcases hget c o1 hc with⟨rfl,rfl⟩|⟨hne,y,hy,rfl⟩
  ·rcases hget c' o2 hc' with⟨rfl,rfl⟩|⟨hne',y',hy',rfl⟩
   ·rfl
   ·exact(key c' y' g2 g1 hne' hy' (by rw[←qB1 (b:=c) y'];exact hl2) hg' hg hk2 (hk1.eq nofun)).elim
  ·rcases hget c' o2 hc' with⟨rfl,rfl⟩|⟨hne',y',hy',rfl⟩
   ·exact(key c y g1 g2 hne hy (by rw[←qB1 (b:=c') y];exact hl1) hg hg' hk1 (hk2.eq nofun)).elim
   ·rw[(hβ' c hne).1]at hg
    rw[(hβ' c' hne').1]at hg'
    have l1:y.live=true:=by rw[←qB1 (b:=b) y];exact hl1
    have l2:y'.live=true:=by rw[←qB1 (b:=b) y'];exact hl2
    exact hh.inj2 c c' y y' g1 g2 k hy hy' l1 l2 hg hg' (back c y g1 k hne hy l1 hg hk1) (back c' y' g2 k hne' hy' l2 hg' hk2)
 ·have hne:c≠b:=by rintro rfl;simp[qB0]at hc
  exact hβ' c hne
 ·exact r3.block k hk fun e=>hB ⟨b,_,k,hb,rfl,hvb k e.symm,.self _⟩
 ·rcases hk with hk|hk
  ·exact .inl hk
  ·rcases hnew k hk with h1|h1
   ·exact .inl (qFW hh hb rfl h1).2
   ·exact .inr h1
 ·rintro k ⟨c,o',g0,hc,hl,hg,hk⟩
  rcases hget c o' hc with⟨rfl,rfl⟩|⟨hne,y,hy,rfl⟩
  ·have e:=hk.eq nofun
   subst e
   rcases hnew k (by simpa[qZ]using hg)with h1|h1
   ·exact .inl ⟨c,_,k,hb,rfl,h1,.self _⟩
   ·exact .inr h1
  ·rw[(hβ' c hne).1]at hg
   have l1:y.live=true:=by rw[←qB1 (b:=b) y];exact hl
   exact .inl ⟨c,y,g0,hy,l1,hg,back c y g0 k hne hy l1 hg hk⟩
theorem qGK (hh:HeapRel w M β cp h) {e sz:Nat}{m:Th Nat}{g:Th Nat→List AV}{news:List Value}{K:qBm}
  (hn1:∀u∈news,u.oneCell'=true) (hglen:∀i:Nat,i<m ()→(g fun _=>i).length=sz) (hgrep:∀(i j:Nat) (x:AV),i<m ()→(g fun _=>i)[j]? =some x→RepC w M x (news.getD (i*sz+j) undef))
  (run:∃v' w',(execOp a.eval o).run P w= .ok (.value v') w'∧w'.ownsRow 0 e sz v' (0+m ()) ([]++news)∧w.grownBy w' (Value.slice none 0 0).ownBlock∧(v'.ownBlock=(Value.slice none 0 0).ownBlock∨v'.ownBlock=some w.heap.size)∧SpZ w' v' e sz (0+m ()))
  (hK:K (.own (len h) m) (h++[.vec e sz m g]) []):qIY P o a w M β cp h K:=by
 obtain⟨v',w',r1,r2,r3,r4,r5⟩:=run
 have hkeep:∀k,k<w.heap.size→¬M k→w'.heap[k]? =w.heap[k]? ∧¬(M k∨v'.ownBlock=some k):=by
  intro k hk hM
  refine⟨r3.block k hk (by simp[Value.ownBlock]),fun h=> ?_⟩
  rcases h with h|h
  ·exact hM h
  ·rcases r4 with r4|r4
   ·rw[r4]at h;cases h
   ·rw[r4]at h;cases h;omega
 have hsame:∀k,k<w.heap.size→w'.heap[k]? =w.heap[k]? :=fun k hk=>r3.block k hk (by simp[Value.ownBlock])
 obtain⟨cap,hcap⟩:=capOf v'
 have hout:=hh.out h.length (Nat.le_refl _)
 have hβ':∀c,c≠h.length→(qZ β h.length v'.ownBlock) c=β c∧(qAk cp h.length cap) c=cp c:=fun c hc=>by simp[qZ,qAk,hc]
 have hnew:∀g0,v'.ownBlock=some g0→w.heap.size≤g0:=by
  intro g0 hg0
  rcases r4 with r4|r4
  ·rw[r4]at hg0;cases hg0
  ·rw[r4]at hg0;cases hg0;exact Nat.le_refl _
 have hobj':=qDi (M':=fun k=>M k∨v'.ownBlock=some k) (β':=qZ β h.length v'.ownBlock) (cp':=qAk cp h.length cap) (b:=h.length) r2 (fun k hk=> .inr hk) (by simp[qZ]) (fun ad n c hv=>by simp[qAk,hcap ad n c hv])
  (by intro u hu;exact hn1 u (by simpa using hu)) (F:=g) (fun i hi=>hglen i (by omega))
  (fun i j z hi hj=>by have:=(hgrep i j z (by omega) hj).keep hkeep;simpa using this) (n:=m) (by omega) r5
 have hget:∀c o',(h++[AObj.vec e sz m g])[c]? =some o'→(c=h.length∧o'= .vec e sz m g)∨(c≠h.length∧h[c]? =some o'):=by
  intro c o' hc
  rw[List.getElem?_append]at hc
  split at hc
  ·exact .inr ⟨by omega,hc⟩
  ·have:c-h.length=0:=by
    rcases Nat.eq_zero_or_pos (c-h.length)with h0|h0
    ·exact h0
    ·rw[List.getElem?_eq_none (by simp;omega)]at hc;cases hc
   rw[this]at hc
   exact .inl ⟨by omega,by simpa using hc.symm⟩
 have hbk:∀b,β b≠none→qZ β h.length v'.ownBlock b=β b∧qAk cp h.length cap b=cp b:=fun b hb=>hβ' b (by rintro rfl;exact hb hout)
 have hlen:len h=h.length:=qK h
 rw[hlen]at hK
 have back:∀c y g0 k,h[c]? =some y→y.live=true→β c=some g0→Foot w' g0 y k→Foot w g0 y k:=fun c y g0 k hy hly hg0 hk=>
  qAP (hh.obj c y hy) hkeep hg0 (fun k hk=>⟨hsame k (hh.foot hy hly hg0 hk).2,.inl⟩) hk
 refine⟨v',w',fun k=>M k∨v'.ownBlock=some k,qZ β h.length v'.ownBlock,qAk cp h.length cap,_,_,[],r1,hK,⟨fun c hc=> ?_,fun c o' hc=> ?_,fun c c' o1 o2 g1 g2 k hc hc' hl1 hl2 hg hg' hk1 hk2=> ?_,hh.dom.go hkeep fun k hk=>hk.elim (fun h1=>Nat.lt_of_lt_of_le (hh.dom.1 k h1) r3.size) fun h1=>qLi r2 h1⟩,⟨hkeep,fun c _ h0=>hbk c h0,⟨r3.os,r3.tape,r3.output,r3.size,fun k hk _=>hsame k hk,fun k _ _ hk=> .inl hk,fun k hk=>hk.elim .inl fun h1=> .inr (hnew k h1)⟩, ?_⟩,hobj'.2⟩
 ·rw[(hβ' c (by simp at hc;omega)).1]
  exact hh.out c (by simp at hc;omega)
 ·rcases hget c o' hc with⟨rfl,rfl⟩|⟨hne,hy⟩
  ·exact hobj'.1
  ·by_cases hly:o'.live=true
   ·exact(hh.obj c o' hy).keep hkeep hbk (fun h0=>by rw[(hβ' c hne).1];exact h0) fun g0 k hg0 hk=>⟨hsame k (hh.foot hy hly hg0 hk).2,.inl⟩
   ·cases o'<;>first|trivial|exact absurd rfl hly
 ·have key:∀c y g1 g2,c≠h.length→h[c]? =some y→y.live=true→(qZ β h.length v'.ownBlock) c=some g1→(qZ β h.length v'.ownBlock) h.length=some g2→Foot w' g1 y k→k=g2→False:=by
   intro c y g1 g2 hne hy hly h1 h2 hk e
   rw[(hβ' c hne).1]at h1
   have h2:v'.ownBlock=some g2:=by simpa[qZ]using h2
   have h3:=hnew g2 h2
   have:=(hh.foot hy hly h1 (back c y g1 k hy hly h1 hk)).2
   omega
  rcases hget c o1 hc with⟨rfl,rfl⟩|⟨hne,hy⟩
  ·rcases hget c' o2 hc' with⟨rfl,rfl⟩|⟨hne',hy'⟩
   ·rfl
   ·exact(key c' o2 g2 g1 hne' hy' hl2 hg' hg hk2 (hk1.eq nofun)).elim
  ·rcases hget c' o2 hc' with⟨rfl,rfl⟩|⟨hne',hy'⟩
   ·exact(key c o1 g1 g2 hne hy hl1 hg hg' hk1 (hk2.eq nofun)).elim
   ·rw[(hβ' c hne).1]at hg
    rw[(hβ' c' hne').1]at hg'
    exact hh.inj2 c c' o1 o2 g1 g2 k hy hy' hl1 hl2 hg hg' (back c o1 g1 k hy hl1 hg hk1) (back c' o2 g2 k hy' hl2 hg' hk2)
 ·rintro k ⟨c,o',g0,hc,hl,hg,hk⟩
  rcases hget c o' hc with⟨rfl,rfl⟩|⟨hne,hy⟩
  ·have e:=hk.eq nofun
   subst e
   exact .inr (hnew k (by simpa[qZ]using hg))
  ·rw[(hβ' c hne).1]at hg
   exact .inl ⟨c,o',g0,hy,hl,hg,back c o' g0 k hy hl hg hk⟩
theorem qSO {fr on:Bool}{A B C D k X:Prop}(hf:on= !fr) (h:match (generalizing:=false) fr with|false=>Ob (fun _=>A∧B∧C∧D∧k) X|true=>Ob (fun _=>A∧B∧C∧D) X):(A∧B∧C∧D)∧(on=false∨k)∧X:=by
 cases fr with
 |false=>cases h with|mk h1 h2=>exact⟨⟨h1.1,h1.2.1,h1.2.2.1,h1.2.2.2.1⟩,.inr h1.2.2.2.2,h2⟩
 |true=>cases h with|mk h1 h2=>exact⟨h1,.inl hf,h2⟩
theorem qI0 (hE:EnvOk P E) {c:Call}(ho:o.op= .call c) (hcal:c.callee= .builtin .append) (hh:HeapRel w M β cp h) (hx:∀x,Rep w M β cp (ev s x) (a.eval x)) {K:qBm}
  (hz:∀t e sz b z,E.ty t= .slice e sz b z→z.length=sz) (hv:qJ8 E o c s h K):qIY P o a w M β cp h K:=by
 unfold qJ8 at hv
 split at hv
 ·rename_i t t' x y hta ha
  split at hv
  ·rename_i e sz bytes z q0 hT
   have q0:=qC.1 q0
   subst q0
   have hTy:=hE.ty t
   rw[hT]at hTy
   have hzl:=hz t e sz bytes z hT
   have hargs:c.args= #[x,y]:=Array.toList_inj.1 ha
   have hats:c.argTypes= #[t,t]:=Array.toList_inj.1 hta
   have run:∀v' w',(Builtin.append_ #[t,t] o.type #[a.eval x,a.eval y]).run P w= .ok v' w'→(execOp a.eval o).run P w= .ok (.value v') w':=by
    intro v' w' hv'
    simp[execOp,ho,resolve,hcal,invoke,builtin,hargs,hats,hv']
   split at hv
   ·rename_i q m g hsrc
    have hx0:=hx x
    split at hv
    ·rename_i b n hX
     rw[hX]at hx0
     split at hv
     ·rename_i e' sz' k f hb
      split at hv
      ·rename_i q1 q2
       have q1:=qC.1 q1
       have q2:=qC.1 q2
       subst q1 q2
       obtain⟨⟨hnk,hq,hby,hmx⟩,hkn,hK⟩:=qSO (hE.fr e) hv
       obtain⟨ao,c',news,ey,hnl,hnc,hn1,hglen,hgrep⟩:=qCq hTy.2.1 hh (hx y) hsrc hq
       refine qEz hh hx0 hb hnk hkn hn1 hgrep (fun xs hown hsp=> ?_) hK
       obtain⟨v',w',r1,r2⟩:=qA3 (P:=P) (ty:=o.type) hTy hzl hown hnl hnc hn1 (by unfold maxLen;omega) hby hsp
       exact⟨v',w',run v' w' (by rw[ey];exact r1),r2⟩
      ·cases hv
     ·cases hv
    ·rename_i hX
     rw[hX]at hx0
     have hv0:=qAJ hx0
     cases hv with
     |mk hob hK=>
     obtain⟨hq,hby,hmx⟩:=hob
     obtain⟨ao,c',news,ey,hnl,hnc,hn1,hglen,hgrep⟩:=qCq hTy.2.1 hh (hx y) hsrc hq
     have hown:w.ownsRow 0 e sz (a.eval x) 0 []:=⟨by simp,.inl ⟨hv0,rfl⟩⟩
     obtain⟨v',w',r1,r2,r3,r4⟩:=qA3 (P:=P) (ty:=o.type) hTy hzl hown hnl hnc hn1 (by unfold maxLen;omega) (by simpa using hby) (by rw[hv0];intro g0 c0 q0 hv;cases hv)
     rw[hv0]at r3 r4
     exact qGK hh hn1 hglen hgrep ⟨v',w',run v' w' (by rw[ey];exact r1),r2,r3,r4⟩ hK
    ·cases hv
   ·cases hv
  ·rename_i e sz bytes z q0 hT
   have hTy:=hE.ty t
   rw[hT]at hTy
   have hzl:=hz t e sz bytes z hT
   obtain⟨hu,hsz,_,⟨i,i1,i2,zv,i3,i4,_⟩,hby,_,hkd⟩:=hTy
   have hargs:c.args= #[x,y]:=Array.toList_inj.1 ha
   have hats:c.argTypes= #[t,t']:=Array.toList_inj.1 hta
   have run:∀v' w',(Builtin.append_ #[t,t'] o.type #[a.eval x,a.eval y]).run P w= .ok v' w'→(execOp a.eval o).run P w= .ok (.value v') w':=by
    intro v' w' hv'
    simp[execOp,ho,resolve,hcal,invoke,builtin,hargs,hats,hv']
   split at hv
   ·rename_i v q1 q2 hT' hY
    have q1:=qC.1 q1
    have q2:=qC.1 q2
    subst q1 q2
    have hTs:=hE.ty t'
    rw[hT']at hTs
    have hy0:=hx y
    rw[hY]at hy0
    have ey:=qBV hy0
    have ib:i.bytes=1:=by rw[i1]at hby;simpa using hby
    have hz1:zv.cells.size=1:=by rw[←hzl,←i4];simp
    have grep:∀(i j:Nat) (x:AV),i<(v ()).size→([AV.i .u8 fun _=>qBo (v ()) (i:Nat)])[j]? =some x→RepC w M x ((Go.Lib.strCells (v ())).getD (i*1+j) undef):=by
     intro i j x hi hj
     cases j with
     |succ j=>simp at hj
     |zero=>
      simp only[List.getElem?_cons_zero,Option.some.injEq]at hj
      subst hj
      rw[Nat.mul_one,Nat.add_zero,qIZ _ hi]
      exact .i .u8 fun _=>qBo (v ()) (i:Nat)
    have hx0:=hx x
    split at hv
    ·rename_i b n hX
     rw[hX]at hx0
     split at hv
     ·rename_i e' sz' k f hb
      split at hv
      ·rename_i q1 q2
       have q1:=qC.1 q1
       have q2:=qC.1 q2
       subst q1 q2
       cases hv with
       |mk hob hK=>
       refine qEz (g:=fun i=>[.i .u8 fun _=>qBo (v ()) (i ():Nat)]) (m:=fun _=>(v ()).size) hh hx0 hb hob.1 (.inr hob.2.2) (qE8 _) (fun i j x hi hj=>grep i j x hi hj) (fun xs hown hsp=> ?_) hK
       obtain⟨v',w',r1,r2⟩:=qCV o.type hu hTs.1 hown i1 i2 i3 hz1 ib (v ()) (by have:=hob.2;unfold maxLen;omega) hob.2.1 hkd hsp
       exact⟨v',w',run v' w' (by rw[ey];exact r1),r2⟩
      ·cases hv
     ·cases hv
    ·rename_i hX
     rw[hX]at hx0
     have hv0:=qAJ hx0
     cases hv with
     |mk hob hK=>
     have hown:w.ownsRow 0 e 1 (a.eval x) 0 []:=⟨by simp,.inl ⟨hv0,rfl⟩⟩
     obtain⟨v',w',r1,r2,r3,r4⟩:=qCV o.type hu hTs.1 hown i1 i2 i3 hz1 ib (v ()) (by unfold maxLen;omega) (by omega) hkd (by rw[hv0];intro g0 c0 q0 hv;cases hv)
     rw[hv0]at r3 r4
     exact qGK (g:=fun i=>[.i .u8 fun _=>qBo (v ()) (i ():Nat)]) (m:=fun _=>(v ()).size) hh (qE8 _) (fun i _=>rfl) (fun i j x hi hj=>grep i j x hi hj) ⟨v',w',run v' w' (by rw[ey];exact r1),r2,r3,r4⟩ hK
    ·cases hv
   ·cases hv
  ·cases hv
 ·cases hv
end
end Go.Abs
namespace Go.Abs
open Go
variable [Kd]
section
variable {P:Program}{E:Env}{w w':World}{M M':Nat→Prop}{β β':Nat→Option Nat}{cp cp':Nat→Nat}{h h':Hp}
theorem qP0 {O:AObj}{c:Nat}{o:AObj}(hc:(h++[O])[c]? =some o):(c=h.length∧o=O)∨(c≠h.length∧h[c]? =some o):=by
 rw[List.getElem?_append]at hc
 split at hc
 ·exact .inr ⟨by omega,hc⟩
 ·have:c-h.length=0:=by
   rcases Nat.eq_zero_or_pos (c-h.length)with h0|h0
   ·exact h0
   ·rw[List.getElem?_eq_none (by simp;omega)]at hc;cases hc
  rw[this]at hc
  exact .inl ⟨by omega,by simpa using hc.symm⟩
theorem HeapRel.push (hh:HeapRel w M β cp h) {O:AObj}(gO:Option Nat) (c:Nat) (hO:qAo w M (qZ β h.length gO) (qAk cp h.length c) h.length O) (hOn:∀g k,gO=some g→O.live=true→Foot w g O k→k=g)
  (hnew:∀g,gO=some g→O.live=true→¬qAL w β h g):HeapRel w M (qZ β h.length gO) (qAk cp h.length c) (h++[O])∧∀k,qAL w (qZ β h.length gO) (h++[O]) k→(gO=some k∧O.live=true)∨qAL w β h k:=by
 have e:qZ β h.length gO h.length=gO:=by simp[qZ]
 obtain⟨p1,p2⟩:=hh.put (w':=w) (M':=M) (β':=qZ β h.length gO) (cp':=qAk cp h.length c) (h':=h++[O]) (nid:=h.length) (O:=O) (Kp:=fun _=>True)
  (fun c o' hc=>(qP0 hc).imp id fun h=>⟨h.1,.inr ⟨trivial,h.2⟩⟩) (fun c hc=>by simp[qZ,qAk,hc]) (fun c hc=>by simp at hc;omega) (hh.out _ (Nat.le_refl _)) (fun _ _ hM=>⟨rfl,hM⟩) hO
  (fun g k hg hl hk=>hOn g k (by rw[←e];exact hg) hl hk) (fun _ _ _ _ _ _ _ _ _=>⟨rfl,id⟩)
  (fun g0 hg0 hl c y g _ hy hly hg hk=>hnew g0 (by rw[←e];exact hg0) hl ⟨c,y,g,hy,hly,hg,hk⟩) hh.dom.1
 exact⟨p1,fun k hk=>(p2 k hk).imp (fun q=>⟨by rw[←e];exact q.1,q.2⟩) id⟩
theorem qRK {N:Nat}{gO:Option Nat}{c b:Nat}(hb:b<N):qZ β N gO b=β b∧qAk cp N c b=cp b:=by
 have:b≠N:=by omega
 simp[qZ,qAk,this]
mutual
theorem qEA:∀(x:NC) (h:Hp) (β:Nat→Option Nat) (cp:Nat→Nat) (K:AV→List AObj→Nat→Prop) (v:Value),qPS h.length x K→HeapRel w M β cp h→OwnV w M x v→(∀k,VFoot w x v k→¬qAL w β h k)→
  ∃(a:AV) (os:List AObj) (β':Nat→Option Nat) (cp':Nat→Nat),K a os (h++os).length∧HeapRel w M β' cp' (h++os)∧(∀b,b<h.length→β' b=β b∧cp' b=cp b)∧Rep w M β' cp' a v∧∀k,qAL w β' (h++os) k→qAL w β h k∨VFoot w x v k
 | .c x,h,β,cp,K,v,hv,hh,ho,_=>by
   cases ho with
   |c _ _ hr=>exact⟨x,[],β,cp,by simpa[qPS]using hv,by simpa using hh,fun _ _=>⟨rfl,rfl⟩,.c hr,fun k hk=> .inl (by simpa using hk)⟩
 | .sl e sz n f,h,β,cp,K,v,hv,hh,ho,hf=>by
   cases ho with
   |nil _ _ _ _ hn=>
    obtain⟨p1,p2⟩:=hh.push (O:= .vec e sz n f) none 0 (.inl ⟨by simp[qZ],hn⟩) (fun g k hg=>by cases hg) (fun g hg=>by cases hg)
    exact⟨.own h.length n,[.vec e sz n f],_,_,by simpa[qPS]using hv,p1,fun b hb=>qRK hb,.own0 _ n hn,fun k hk=>(p2 k hk).elim (fun q=>by cases q.1) .inl⟩
   |sl _ _ _ _ g c cur hM hc hs ho hn hm hl hr=>
    have hfg:=hf g (.sl e sz n f ⟨g,0,none⟩ _ _)
    obtain⟨p1,p2⟩:=hh.push (O:= .vec e sz n f) (some g) c (.inr ⟨g,cur,by simp[qZ],hM,hc,by simp only[qAk,if_true];exact hs,by simp only[qAk,if_true];exact ho,by simp only[qAk,if_true];exact hn,by simp only[qAk,if_true];exact hm,hl,hr⟩)
     (fun g k _ _ hk=>hk.eq nofun) (fun g' hg' _=>by cases hg';exact hfg)
    refine⟨.own h.length n,[.vec e sz n f],_,_,by simpa[qPS]using hv,p1,fun b hb=>qRK hb, ?_,fun k hk=>(p2 k hk).elim (fun q=> .inr ?_) .inl⟩
    ·have:=Rep.own (w:=w) (M:=M) (β:=qZ β h.length (some g)) (cp:=qAk cp h.length c) h.length n g (by simp[qZ]) (by simp[qAk];exact hn)
     simpa[qAk]using this
    ·have:g=k:=by simpa using q.1
     subst this
     exact .sl e sz n f ⟨g,0,none⟩ _ _
 | .ite c x y,h,β,cp,K,v,hv,hh,ho,hf=>by
   simp only[qPS]at hv
   cases hv with
   |mk h1 h2=>
    cases h1 with|mk h1=>cases h2 with|mk h2=>
    cases ho with
    |ite _ _ _ _ o1 o2=>
     cases hc:c ()with
     |true=>
      obtain⟨a,os,β',cp',r1,r2,r3,r4,r5⟩:=qEA x h β cp K v (h1 hc).out hh (o1 hc) fun k hk=>hf k (.ite1 c x y v k hc hk)
      exact⟨a,os,β',cp',r1,r2,r3,r4,fun k hk=>(r5 k hk).imp id fun q=> .ite1 c x y v k hc q⟩
     |false=>
      obtain⟨a,os,β',cp',r1,r2,r3,r4,r5⟩:=qEA y h β cp K v (h2 hc).out hh (o2 hc) fun k hk=>hf k (.ite2 c x y v k hc hk)
      exact⟨a,os,β',cp',r1,r2,r3,r4,fun k hk=>(r5 k hk).imp id fun q=> .ite2 c x y v k hc q⟩
 | .pt l,h,β,cp,K,v,hv,hh,ho,hf=>by
   simp only[qPS]at hv
   cases ho with
   |pt _ g cur t hM hc h1 hlen hr hd hne=>
    have hfg:=hf g (.pt l ⟨g,0,none⟩)
    have hin:∀(j:Nat) (x:NC) (k:Nat),l[j]? =some x→VFoot w x (cur.getD j undef) k→VFoot w (.pt l) (.pointer (some ⟨g,0,none⟩)) k:=fun j x k hj hk=> .inn l ⟨g,0,none⟩ cur t (0,0) j x k hc hj hk
    obtain⟨d1,d2⟩:=hh.push (O:= .dead) none 0 trivial (fun g k hg=>by cases hg) (fun g hg=>by cases hg)
    have eβ:qZ β h.length none=β:=funext fun b=>by
     by_cases hb:b=h.length
     ·simp[qZ,hb,hh.out h.length (Nat.le_refl _)]
     ·simp[qZ,hb]
    rw[eβ]at d1 d2
    have hl1:(h++[AObj.dead]).length=Nat.succ h.length:=by simp
    rw[←hl1]at hv
    obtain⟨cs,os,β1,cp1,r1,r2,r3,r4,r5,r6⟩:=qEB l (h++[AObj.dead]) β _ _ (fun j=>cur.getD j undef) hv d1 hr (fun j x k hj hk hB=>hf k (hin j x k hj hk) ((d2 k hB).elim (fun q=>by cases q.1) id)) hd
    have e1:h++(AObj.blk cs::os)=((h++[AObj.dead])++os).set h.length (.blk cs):=by
     rw[List.append_assoc,List.set_append_right _ _ (Nat.le_refl _)]
     simp
    have hl2:h.length<((h++[AObj.dead])++os).length:=by simp only[List.length_append,List.length_singleton];omega
    have hb1:β1 h.length=none:=(r3 h.length (by simp)).1.trans (hh.out _ (Nat.le_refl _))
    have hget:∀c o',(((h++[AObj.dead])++os).set h.length (.blk cs))[c]? =some o'→(c=h.length∧o'= .blk cs)∨(c≠h.length∧((h++[AObj.dead])++os)[c]? =some o'):=by
     intro c o' hc
     by_cases hcn:c=h.length
     ·subst hcn
      rw[List.getElem?_set_self hl2]at hc
      exact .inl ⟨rfl,by cases hc;rfl⟩
     ·rw[List.getElem?_set_ne (fun q=>hcn q.symm)]at hc
      exact .inr ⟨hcn,hc⟩
    have hu:∀b,β1 b≠none→qZ β1 h.length (some g) b=β1 b∧qAk cp1 h.length 0 b=cp1 b:=fun b hb=>by
     have:b≠h.length:=by rintro rfl;exact hb hb1
     simp[qZ,qAk,this]
    obtain⟨p1,p2⟩:=r2.put (w':=w) (M':=M) (β':=qZ β1 h.length (some g)) (cp':=qAk cp1 h.length 0) (h':=((h++[AObj.dead])++os).set h.length (.blk cs)) (nid:=h.length) (O:= .blk cs) (Kp:=fun _=>True)
     (fun c o' hc=>(hget c o' hc).imp id fun h=>⟨h.1,.inr ⟨trivial,h.2⟩⟩) (fun c hc=>by simp[qZ,qAk,hc]) (fun c hc=>by simp at hc;simp;omega) hb1 (fun _ _ hM=>⟨rfl,hM⟩)
     ⟨g,cur,t,by simp[qZ],hM,hc,⟨by simpa[r4]using hlen,fun j a hj=>by
       have:=(r5 j a hj).keep (fun _ _ hM=>⟨rfl,hM⟩) hu
       rw[qG]at this
       exact this⟩,⟨h1,by simp[qAk]⟩⟩
     (fun g' k hg' _ hk=>hk.eq nofun) (fun _ _ _ _ _ _ _ _ _=>⟨rfl,id⟩)
     (fun g0 hg0 _ c y g' _ hy hly hg' hk=>by
       have:g=g0:=by simpa[qZ]using hg0
       subst this
       rcases r6 g ⟨c,y,g',hy,hly,hg',hk⟩with q|⟨j,x,q1,q2⟩
       ·exact hfg ((d2 g q).elim (fun q=>by cases q.1) id)
       ·exact hne j x g q1 q2 rfl) r2.dom.1
    rw[←e1]at p1 p2
    refine⟨.ptr h.length 0,.blk cs::os,_,_, ?_,p1,fun b hb=> ?_,.ptr _ 0 g (by simp[qZ]),fun k hk=> ?_⟩
    ·have:(h++[AObj.dead]++os).length=(h++AObj.blk cs::os).length:=by simp
     rw[←this];exact r1
    ·have:=r3 b (by simp;omega)
     have hb2:b≠h.length:=by omega
     refine⟨by simp[qZ,hb2,this.1], ?_⟩
     have e2:qAk cp h.length 0 b=cp b:=by simp[qAk,hb2]
     simp only[qAk,hb2,if_false]
     rw[this.2,e2]
    ·rcases p2 k hk with⟨q1,_⟩|q
     ·have:g=k:=by simpa[qZ]using q1
      subst this
      exact .inr (.pt l ⟨g,0,none⟩)
     ·rcases r6 k q with q|⟨j,x,q1,q2⟩
      ·exact .inl ((d2 k q).elim (fun q=>by cases q.1) id)
      ·exact .inr (hin j x k q1 q2)
theorem qEB:∀(l:List NC) (h:Hp) (β:Nat→Option Nat) (cp:Nat→Nat) (K:List AV→List AObj→Nat→Prop) (g:Nat→Value),qUu h.length l K→HeapRel w M β cp h→(∀(j:Nat) (x:NC),l[j]? =some x→OwnV w M x (g j))→
  (∀(j:Nat) (x:NC) (k:Nat),l[j]? =some x→VFoot w x (g j) k→¬qAL w β h k)→(∀(j j':Nat) (x x':NC) (k:Nat),l[j]? =some x→l[j']? =some x'→VFoot w x (g j) k→VFoot w x' (g j') k→j=j')→
  ∃(cs:List AV) (os:List AObj) (β':Nat→Option Nat) (cp':Nat→Nat),K cs os (h++os).length∧HeapRel w M β' cp' (h++os)∧(∀b,b<h.length→β' b=β b∧cp' b=cp b)∧cs.length=l.length∧
   (∀(j:Nat) (a:AV),cs[j]? =some a→Rep w M β' cp' a (g j))∧∀k,qAL w β' (h++os) k→qAL w β h k∨∃j x,l[j]? =some x∧VFoot w x (g j) k
 |[],h,β,cp,K,g,hv,hh,_,_,_=>⟨[],[],β,cp,by simpa[qUu]using hv,by simpa using hh,fun _ _=>⟨rfl,rfl⟩,rfl,fun j a hj=>by simp at hj,fun k hk=> .inl (by simpa using hk)⟩
 |x::l,h,β,cp,K,g,hv,hh,ho,hf,hd=>by
  simp only[qUu]at hv
  obtain⟨a,os,β1,cp1,r1,r2,r3,r4,r5⟩:=qEA x h β cp _ (g 0) hv hh (ho 0 x rfl) (hf 0 x · rfl)
  obtain⟨cs,os',β2,cp2,s1,s2,s3,s4,s5,s6⟩:=qEB l (h++os) β1 cp1 _ (fun j=>g (j+1)) r1 r2 (fun j y hj=>ho (j+1) y (by simpa using hj))
   (fun j y k hj hk hB=>(r5 k hB).elim (hf (j+1) y k (by simpa using hj) hk) fun q=>by have:=hd 0 (j+1) x y k rfl (by simpa using hj) q hk;omega)
   (fun j j' y y' k hj hj' hk hk'=>by have:=hd (j+1) (j'+1) y y' k (by simpa using hj) (by simpa using hj') hk hk';omega)
  refine⟨a::cs,os++os',β2,cp2,by rw[←List.append_assoc];exact s1,by rw[←List.append_assoc];exact s2,fun b hb=> ?_,by simp[s4],fun j y hj=> ?_,fun k hk=> ?_⟩
  ·have h1:=s3 b (by simp;omega)
   have h2:=r3 b hb
   exact⟨h1.1.trans h2.1,h1.2.trans h2.2⟩
  ·cases j with
   |zero=>
    simp at hj
    subst hj
    exact r4.keep (fun _ _ hM=>⟨rfl,hM⟩) fun b hb=>s3 b (Nat.lt_of_not_le fun hle=>hb (r2.out b hle))
   |succ j=>exact s5 j y (by simpa using hj)
  ·rw[←List.append_assoc]at hk
   rcases s6 k hk with q|⟨j,y,q1,q2⟩
   ·rcases r5 k q with q|q
    ·exact .inl q
    ·exact .inr ⟨0,x,rfl,q⟩
   ·exact .inr ⟨j+1,y,by simpa using q1,q2⟩
end
theorem qFX {b:Nat}{i:Th Nat}{K:Hp→Prop}(hv:qPU b i h K) (hh:HeapRel w M β cp h):
  ∃h' β' cp',K h'∧HeapRel w M β' cp' h'∧(∀c,β c≠none→β' c=β c∧cp' c=cp c)∧∀k,qAL w β' h' k→qAL w β h k:=by
 unfold qPU at hv
 split at hv
 case h_2=>cases hv
 rename_i e sz n F hb
 have hb:=qJ hb rfl
 cases hv with
 |mk hi hv=>
 have hi:i ()<n ():=hi
 rcases hh.obj b _ hb with⟨e1,e2,_⟩|⟨g,cur,hg,r⟩
 ·omega
 have hno:∀j,¬opAt (none:Option (Th Nat×List AV)) j:=fun j q=>q
 have hO1:NstRel w M β cp (cp b) e sz (n ()) F (some (i,List.replicate sz .any)) g cur:=⟨r.hM,r.cell,r.size,r.ones,r.le,r.max,fun j hj _=>r.len j hj (hno j),fun j q x hj _ hx=>r.own j q x hj (hno j) hx,
  fun j q j' q' x x' k hj hj' _ _ hx hx' hk hk'=>r.dis j q j' q' x x' k hj hj' (hno j) (hno j') hx hx' hk hk',fun j q x k hj _ hx hk=>r.ne j q x k hj (hno j) hx hk,
  fun k cs ho=>by cases ho;exact⟨hi,by simp,fun q x hx=>by rw[List.getElem?_replicate]at hx;split at hx<;>cases hx;exact .c (.any _)⟩⟩
 obtain⟨s1,s2⟩:=hh.set1 (w':=w) (M':=M) (O:= .nst e sz n F (some (i,List.replicate sz .any))) hb rfl (fun _ _ hM=>⟨rfl,hM⟩) (.inr ⟨g,cur,hg,hO1⟩)
  (fun g' k _ hk=>by
    cases hk with
    |self=>exact .self _
    |inn _ _ _ _ _ cur2 j q x _ g1 g2 g3 g4 g5=>exact .inn _ _ _ _ _ cur2 j q x k g1 g2 (hno j) g4 g5) (fun _ _ _ _ _ _ _ _ _=>⟨rfl,id⟩) hh.dom.1
 have hbl:b<h.length:=(List.getElem?_eq_some_iff.1 hb).1
 have hlen:len h=(h.set b (.nst e sz n F (some (i,List.replicate sz .any)))).length:=by rw[qK,List.length_set]
 rw[hlen]at hv
 have hin:∀q x k,(F i)[q]? =some x→VFoot w x (cur.getD (i ()*sz+q) undef) k→Foot w g (.nst e sz n F none) k:=fun q x k hx hk=> .inn e sz n F none cur (i ()) q x k r.cell hi (hno _) hx hk
 obtain⟨cs,os,β',cp',r1,r2,r3,r4,r5,r6⟩:=qEB (F i) _ β cp _ (fun q=>cur.getD (i ()*sz+q) undef) hv s1 (fun q x hx=>r.own (i ()) q x hi (hno _) hx)
  (fun q x k hx hk hB=>by
    obtain⟨c,o,gc,hc,hl,hgc,hkc⟩:=hB
    by_cases hcb:c=b
    ·subst hcb
     rw[List.getElem?_set_self hbl]at hc
     cases hc
     rw[hg]at hgc
     cases hgc
     cases hkc with
     |self=>exact r.ne (i ()) q x _ hi (hno _) hx hk rfl
     |inn _ _ _ _ _ cur2 j q2 x2 _ g1 g2 g3 g4 g5=>
      rw[r.cell]at g1
      simp only[Option.some.injEq,Obj.cells.injEq]at g1
      obtain⟨rfl,-,-⟩:=g1
      have:=r.dis (i ()) q j q2 x x2 k hi g2 (hno _) (hno _) hx g4 hk g5
      exact g3 this.1
    ·rw[List.getElem?_set_ne (fun q=>hcb q.symm)]at hc
     exact hcb (hh.inj2 c b o _ gc g k hc hb hl rfl hgc hg hkc (hin q x k hx hk)))
  (fun q q' x x' k hx hx' hk hk'=>(r.dis (i ()) q (i ()) q' x x' k hi hi (hno _) (hno _) hx hx' hk hk').2)
 split at r1
 case h_2=>cases r1
 rename_i hcs
 rw[qK]at hcs
 have hcs:=qC.1 hcs
 have hb2:((h.set b (.nst e sz n F (some (i,List.replicate sz .any))))++os)[b]? =some (.nst e sz n F (some (i,List.replicate sz .any))):=by
  rw[List.getElem?_append_left (by rw[List.length_set];exact hbl),List.getElem?_set_self hbl]
 have hgb:β' b=some g∧cp' b=cp b:=by
  have:=r3 b (by rw[List.length_set];exact hbl)
  exact⟨this.1.trans hg,this.2⟩
 have hO2:NstRel w M β' cp' (cp' b) e sz (n ()) F (some (i,cs)) g cur:=by
  rw[hgb.2]
  exact⟨hO1.hM,hO1.cell,hO1.size,hO1.ones,hO1.le,hO1.max,hO1.len,hO1.own,hO1.dis,hO1.ne,fun k cs' ho=>by cases ho;exact⟨hi,hcs,r5⟩⟩
 obtain⟨t1,t2⟩:=r2.set1 (w':=w) (M':=M) (O:= .nst e sz n F (some (i,cs))) hb2 rfl (fun _ _ hM=>⟨rfl,hM⟩) (.inr ⟨g,cur,hgb.1,hO2⟩)
  (fun g' k _ hk=>by
    cases hk with
    |self=>exact .self _
    |inn _ _ _ _ _ cur2 j q x _ g1 g2 g3 g4 g5=>exact .inn _ _ _ _ _ cur2 j q x k g1 g2 g3 g4 g5) (fun _ _ _ _ _ _ _ _ _=>⟨rfl,id⟩) r2.dom.1
 have e3:((h.set b (.nst e sz n F (some (i,List.replicate sz .any))))++os).set b (.nst e sz n F (some (i,cs)))=h.set b (.nst e sz n F (some (i,cs)))++os:=by
  rw[List.set_append_left _ _ (by rw[List.length_set];exact hbl),List.set_set]
 rw[e3]at t1 t2
 refine⟨_,β',cp',r1,t1,fun c hc=> ?_,fun k hk=> ?_⟩
 ·refine r3 c ?_
  rw[List.length_set]
  exact Nat.lt_of_not_le fun hle=>hc (hh.out c hle)
 ·rcases r6 k (t2 k hk)with q|⟨q,x,q1,q2⟩
  ·exact s2 k q
  ·exact⟨b,_,g,hb,rfl,hg,hin q x k q1 q2⟩
mutual
theorem qKd {c:Th Bool}:∀(x y:NC) (v:Value),(c ()=true→OwnV w M x v)→(c ()=false→OwnV w M y v)→OwnV w M (qNu c x y) v∧∀k,VFoot w (qNu c x y) v k→(c ()=true→VFoot w x v k)∧(c ()=false→VFoot w y v k):=by
 intro x y v hx hy
 have gen:OwnV w M (.ite c x y) v∧∀k,VFoot w (.ite c x y) v k→(c ()=true→VFoot w x v k)∧(c ()=false→VFoot w y v k):=by
  refine⟨.ite c x y v hx hy,fun k hk=> ?_⟩
  cases hk with
  |ite1 _ _ _ _ _ hc h=>exact⟨fun _=>h,fun q=>by rw[hc]at q;cases q⟩
  |ite2 _ _ _ _ _ hc h=>exact⟨fun q=>(by rw[hc]at q;cases q),fun _=>h⟩
 match x,y with
 | .c a,.c b=>
   refine⟨.c _ _ (qBy a b (fun hc=> ?_) fun hc=> ?_),fun k hk=>by cases hk⟩
   ·cases hx hc with|c _ _ h=>exact h
   ·cases hy hc with|c _ _ h=>exact h
 | .sl e sz n f,.sl e' sz' m g=>
   simp only[qNu]
   split
   ·rename_i q1 q2
    have q1:=qC.1 q1
    have q2:=qC.1 q2
    subst q1 q2
    have hlen:∀i:Nat,(qBB sz c (f fun _=>i) (g fun _=>i)).length=sz:=fun i=>qCa _ _ _ _
    rcases Bool.eq_false_or_eq_true (c ())with hc|hc
    ·
     cases hx hc with
     |nil _ _ _ _ hn=>exact⟨.nil _ _ _ _ (by show(bif c ()then n ()else m ())=0;rw[hc];exact hn),fun k hk=>by cases hk⟩
     |sl _ _ _ _ gg cc cur hM hcell hs ho hn hm hl h=>
      have:=OwnV.sl (w:=w) (M:=M) e sz (fun _=>bif c ()then n ()else m ()) (fun i=>qBB sz c (f i) (g i)) gg cc cur hM hcell hs (by show OneSp cur e sz (bif c ()then n ()else m ()) cc;rw[hc];exact ho) (by show(bif c ()then n ()else m ())≤cc;rw[hc];exact hn) hm (fun i _=>hlen i)
       (fun i j z hi hj=>by
         have hi:i<n ():=by have hi:i<(bif c ()then n ()else m ()):=hi;rwa [hc]at hi
         obtain⟨hjs,rfl⟩:=qBz _ _ _ _ _ _ hj
         refine qBy _ _ (fun _=> ?_) (fun q=>by rw[hc]at q;cases q)
         rw[List.getD_eq_getElem?_getD]
         cases hf:(f fun _=>i)[j]? with
         |none=>exact .any _
         |some z=>exact h i j z hi hf)
      have e2:(Value.slice (some ⟨gg,0,none⟩) ((fun _=>bif c ()then n ()else m ()) ()) cc)= .slice (some ⟨gg,0,none⟩) (n ()) cc:=by show Value.slice _ (bif c ()then n ()else m ()) _=_;rw[hc];rfl
      rw[e2]at this
      exact⟨this,fun k hk=>by cases hk;exact⟨fun _=> .sl _ _ _ _ ⟨gg,0,none⟩ _ _,fun q=>by rw[hc]at q;cases q⟩⟩
    ·
     cases hy hc with
     |nil _ _ _ _ hn=>exact⟨.nil _ _ _ _ (by show(bif c ()then n ()else m ())=0;rw[hc];exact hn),fun k hk=>by cases hk⟩
     |sl _ _ _ _ gg cc cur hM hcell hs ho hn hm hl h=>
      have:=OwnV.sl (w:=w) (M:=M) e sz (fun _=>bif c ()then n ()else m ()) (fun i=>qBB sz c (f i) (g i)) gg cc cur hM hcell hs (by show OneSp cur e sz (bif c ()then n ()else m ()) cc;rw[hc];exact ho) (by show(bif c ()then n ()else m ())≤cc;rw[hc];exact hn) hm (fun i _=>hlen i)
       (fun i j z hi hj=>by
         have hi:i<m ():=by have hi:i<(bif c ()then n ()else m ()):=hi;rwa [hc]at hi
         obtain⟨hjs,rfl⟩:=qBz _ _ _ _ _ _ hj
         refine qBy _ _ (fun q=>by rw[hc]at q;cases q) (fun _=> ?_)
         rw[List.getD_eq_getElem?_getD]
         cases hf:(g fun _=>i)[j]? with
         |none=>exact .any _
         |some z=>exact h i j z hi hf)
      have e2:(Value.slice (some ⟨gg,0,none⟩) ((fun _=>bif c ()then n ()else m ()) ()) cc)= .slice (some ⟨gg,0,none⟩) (m ()) cc:=by show Value.slice _ (bif c ()then n ()else m ()) _=_;rw[hc];rfl
      rw[e2]at this
      exact⟨this,fun k hk=>by cases hk;exact⟨fun q=>(by rw[hc]at q;cases q),fun _=> .sl _ _ _ _ ⟨gg,0,none⟩ _ _⟩⟩
   ·exact gen
 | .pt l,.pt m=>
   simp only[qNu]
   split
   ·rename_i q
    rw[qK,qK]at q
    have q:=qC.1 q
    have hget:=fun g h1 h2=>qBC (c:=c) l m g h1 h2 (fun _=>q.symm)
    rcases Bool.eq_false_or_eq_true (c ())with hc|hc
    ·
     cases hx hc with
     |pt _ g cur t hM hcell h1 hlen h hd hne=>
      obtain⟨p0,p⟩:=hget (fun j=>cur.getD j undef) (fun _=>h) (fun q=>by rw[hc]at q;cases q)
      have back:∀j z k,(qAp c l m)[j]? =some z→VFoot w z (cur.getD j undef) k→∃x,l[j]? =some x∧VFoot w x (cur.getD j undef) k:=fun j z k hj hk=>((p j z hj).2 k hk).1 hc
      refine⟨.pt _ g cur t hM hcell h1 (by rw[p0];exact hlen) (fun j z hj=>(p j z hj).1) (fun j j' z z' k hj hj' hk hk'=> ?_) (fun j z k hj hk=> ?_),fun k hk=>⟨fun _=> ?_,fun q=>by rw[hc]at q;cases q⟩⟩
      ·obtain⟨x,a1,a2⟩:=back j z k hj hk
       obtain⟨x',b1,b2⟩:=back j' z' k hj' hk'
       exact hd j j' x x' k a1 b1 a2 b2
      ·obtain⟨x,a1,a2⟩:=back j z k hj hk
       exact hne j x k a1 a2
      ·cases hk with
       |pt=>exact .pt l ⟨g,0,none⟩
       |inn _ _ cur' t' fr j z k q1 q2 q3=>
        have q1:w.heap[g]? =some (.cells cur' t' fr):=q1
        rw[hcell]at q1
        simp only[Option.some.injEq,Obj.cells.injEq]at q1
        obtain⟨rfl,rfl,rfl⟩:=q1
        obtain⟨x,a1,a2⟩:=back j z k q2 q3
        exact .inn l ⟨g,0,none⟩ cur t (0,0) j x k hcell a1 a2
    ·
     cases hy hc with
     |pt _ g cur t hM hcell h1 hlen h hd hne=>
      obtain⟨p0,p⟩:=hget (fun j=>cur.getD j undef) (fun q=>by rw[hc]at q;cases q) (fun _=>h)
      have back:∀j z k,(qAp c l m)[j]? =some z→VFoot w z (cur.getD j undef) k→∃x,m[j]? =some x∧VFoot w x (cur.getD j undef) k:=fun j z k hj hk=>((p j z hj).2 k hk).2 hc
      refine⟨.pt _ g cur t hM hcell h1 (by rw[p0,q];exact hlen) (fun j z hj=>(p j z hj).1) (fun j j' z z' k hj hj' hk hk'=> ?_) (fun j z k hj hk=> ?_),fun k hk=>⟨fun q=>(by rw[hc]at q;cases q),fun _=> ?_⟩⟩
      ·obtain⟨x,a1,a2⟩:=back j z k hj hk
       obtain⟨x',b1,b2⟩:=back j' z' k hj' hk'
       exact hd j j' x x' k a1 b1 a2 b2
      ·obtain⟨x,a1,a2⟩:=back j z k hj hk
       exact hne j x k a1 a2
      ·cases hk with
       |pt=>exact .pt m ⟨g,0,none⟩
       |inn _ _ cur' t' fr j z k q1 q2 q3=>
        have q1:w.heap[g]? =some (.cells cur' t' fr):=q1
        rw[hcell]at q1
        simp only[Option.some.injEq,Obj.cells.injEq]at q1
        obtain⟨rfl,rfl,rfl⟩:=q1
        obtain⟨x,a1,a2⟩:=back j z k q2 q3
        exact .inn m ⟨g,0,none⟩ cur t (0,0) j x k hcell a1 a2
   ·exact gen
 | .c a,.sl _ _ _ _=>exact gen
 | .c a,.pt _=>exact gen
 | .c a,.ite _ _ _=>exact gen
 | .sl _ _ _ _,.c _=>exact gen
 | .sl _ _ _ _,.pt _=>exact gen
 | .sl _ _ _ _,.ite _ _ _=>exact gen
 | .pt _,.c _=>exact gen
 | .pt _,.sl _ _ _ _=>exact gen
 | .pt _,.ite _ _ _=>exact gen
 | .ite _ _ _,y=>cases y<;>exact gen
theorem qBC {c:Th Bool}:∀(l m:List NC) (g:Nat→Value),(c ()=true→∀(j:Nat) (x:NC),l[j]? =some x→OwnV w M x (g j))→(c ()=false→∀(j:Nat) (x:NC),m[j]? =some x→OwnV w M x (g j))→(c ()=false→m.length=l.length)→
  (qAp c l m).length=l.length∧∀(j:Nat) (z:NC),(qAp c l m)[j]? =some z→OwnV w M z (g j)∧∀k,VFoot w z (g j) k→(c ()=true→∃x,l[j]? =some x∧VFoot w x (g j) k)∧(c ()=false→∃x,m[j]? =some x∧VFoot w x (g j) k)
 |[],m,g,_,_,_=>by
  cases m<;>exact⟨rfl,fun j z hj=>by simp[qAp]at hj⟩
 |x::l,[],g,h1,h2,h3=>by
  have hc:c ()=true:=by
   cases hc:c ()with
   |true=>rfl
   |false=>have:=h3 hc;simp at this
  have ih:=qBC l [] (fun j=>g (j+1)) (fun hc j y hj=>h1 hc (j+1) y (by simpa using hj)) (fun q=>by rw[hc]at q;cases q) (fun q=>by rw[hc]at q;cases q)
  refine⟨by simp[qAp,ih.1],fun j z hj=> ?_⟩
  cases j with
  |zero=>simp[qAp]at hj;subst hj;exact⟨h1 hc 0 x rfl,fun k hk=>⟨fun _=>⟨x,rfl,hk⟩,fun q=>by rw[hc]at q;cases q⟩⟩
  |succ j=>
   obtain⟨a1,a2⟩:=ih.2 j z (by simpa[qAp]using hj)
   refine⟨a1,fun k hk=>⟨fun q=> ?_,fun q=>by rw[hc]at q;cases q⟩⟩
   obtain⟨y,b1,b2⟩:=(a2 k hk).1 q
   exact⟨y,by simpa using b1,b2⟩
 |x::l,y::m,g,h1,h2,h3=>by
  have hxy:=qKd (c:=c) x y (g 0) (fun hc=>h1 hc 0 x rfl) (fun hc=>h2 hc 0 y rfl)
  have ih:=qBC l m (fun j=>g (j+1)) (fun hc j z hj=>h1 hc (j+1) z (by simpa using hj)) (fun hc j z hj=>h2 hc (j+1) z (by simpa using hj)) (fun hc=>by have:=h3 hc;simpa using this)
  refine⟨by simp[qAp,ih.1],fun j z hj=> ?_⟩
  cases j with
  |zero=>simp[qAp]at hj;subst hj;exact⟨hxy.1,fun k hk=>⟨fun q=>⟨x,rfl,(hxy.2 k hk).1 q⟩,fun q=>⟨y,rfl,(hxy.2 k hk).2 q⟩⟩⟩
  |succ j=>
   obtain⟨a1,a2⟩:=ih.2 j z (by simpa[qAp]using hj)
   refine⟨a1,fun k hk=>⟨fun q=> ?_,fun q=> ?_⟩⟩
   ·obtain⟨y,b1,b2⟩:=(a2 k hk).1 q
    exact⟨y,by simpa using b1,b2⟩
   ·obtain⟨y,b1,b2⟩:=(a2 k hk).2 q
    exact⟨y,by simpa using b1,b2⟩
end
omit [Kd]in
theorem qLj {b:Nat}:∀{l:List Nat},qBL b l=true↔b∈l
 |[]=>by simp[qBL]
 |x::r=>by
  simp only[qBL]
  split
  ·rename_i q;simp[qC.1 q]
  ·rename_i q
   have:¬b=x:=fun e=>by rw[qC.2 e.symm]at q;cases q
   rw[qLj,List.mem_cons]
   simp[this]
omit [Kd]in
theorem qEC:∀{l:List Nat},qIU l=true→l.Nodup
 |[],_=>List.nodup_nil
 |b::r,h=>by
  simp only[qIU]at h
  split at h
  ·cases h
  ·rename_i q
   exact List.nodup_cons.2 ⟨fun hm=>(by rw[qLj.2 hm]at q;cases q),qEC h⟩
def IdB (β:Nat→Option Nat) (ids:List Nat) (k:Nat):Prop:=∃b∈ids,β b=some k
def qGA (h:Hp) (ids:List Nat):Prop:=∀b∈ids,∃o,h[b]? =some o∧o.live=true
theorem qNx (hh:HeapRel w M β cp h) {ids:List Nat}(hi:qGA h ids) {b c k:Nat}(hb:b∈ids) (hc:c∈ids) (h1:β b=some k) (h2:β c=some k):b=c:=by
 obtain⟨o,a1,a2⟩:=hi b hb
 obtain⟨o',b1,b2⟩:=hi c hc
 exact hh.inj b c o o' k a1 b1 a2 b2 h1 h2
theorem qGL (hE:∀e,Kd.on e= !(E.fr e)) (hh:HeapRel w M β cp h) {b:Nat}{n:Th Nat}{nc:NC}{ids:List Nat}{q:List (Th Prop)}(hc:qXD E h b n=some (nc,ids,q)) (hq:∀p∈q,p ()) {v:Value}(hr:Rep w M β cp (.own b n) v):
  OwnV w M nc v∧(∀k,VFoot w nc v k→IdB β ids k)∧qGA h ids:=by
 unfold qXD at hc
 split at hc
 case h_2=>cases hc
 rename_i e sz m f hb
 have hb:=qJ hb rfl
 have key:(n ()≤m ())→(Kd.on e=false∨n ()=m ())→nc= .sl e sz n f→ids=[b]→OwnV w M nc v∧(∀k,VFoot w nc v k→IdB β ids k)∧qGA h ids:=by
  rintro hnm hk rfl rfl
  refine⟨?_,fun k hk=> ?_,fun c hc=>by simp at hc;subst hc;exact⟨_,hb,rfl⟩⟩
  ·rcases qW hr with⟨h0,rfl⟩|⟨g,hg,hn,rfl⟩
   ·exact .nil e sz n f h0
   ·rcases hh.obj b _ hb with⟨h1,_⟩|⟨g',cur,h1,h2,h3,h4,h5,h6,h7,h8,h9⟩
    ·rw[hg]at h1;cases h1
    ·rw[hg]at h1;cases h1
     refine .sl e sz n f g (cp b) cur h2 h3 h4 ⟨fun k hk=>h5.one k (Nat.lt_of_lt_of_le hk (Nat.mul_le_mul_right _ hnm)),fun i j q1 q2 q3 hon=> ?_⟩ hn h7 (fun i hi=>h8 i (by omega)) (fun i j x hi hj=>h9 i j x (by omega) hj)
     rcases hk with hk|hk
     ·rw[hk]at hon;cases hon
     ·exact h5.sp i j (by omega) q2 q3 hon
  ·rcases qW hr with⟨h0,rfl⟩|⟨g,hg,hn,rfl⟩
   ·cases hk
   ·cases hk;exact⟨b,by simp,hg⟩
 split at hc
 ·rename_i hf
  simp only[Option.some.injEq,Prod.mk.injEq]at hc
  obtain⟨rfl,rfl,rfl⟩:=hc
  exact key (hq _ (List.mem_cons_self ..)) (.inl (by rw[hE,hf];rfl)) rfl rfl
 ·simp only[Option.some.injEq,Prod.mk.injEq]at hc
  obtain⟨rfl,rfl,rfl⟩:=hc
  have:n ()=m ():=hq _ (List.mem_cons_self ..)
  exact key (by omega) (.inr this) rfl rfl
theorem qCr {G:AV→Option (NC×List Nat×List (Th Prop))}(hh:HeapRel w M β cp h)
  (hG:∀x nc ids q,G x=some (nc,ids,q)→(∀p∈q,p ())→ids.Nodup→∀v,Rep w M β cp x v→OwnV w M nc v∧(∀k,VFoot w nc v k→IdB β ids k)∧qGA h ids):
  ∀(l:List AV) (row:List NC) (ids:List Nat) (q:List (Th Prop)),qSG G l=some (row,ids,q)→(∀p∈q,p ())→ids.Nodup→∀(g:Nat→Value),(∀(j:Nat) (x:AV),l[j]? =some x→Rep w M β cp x (g j))→
   row.length=l.length∧(∀(j:Nat) (x:NC),row[j]? =some x→OwnV w M x (g j))∧(∀(j:Nat) (x:NC) (k:Nat),row[j]? =some x→VFoot w x (g j) k→IdB β ids k)∧
   (∀(j j':Nat) (x x':NC) (k:Nat),row[j]? =some x→row[j']? =some x'→VFoot w x (g j) k→VFoot w x' (g j') k→j=j')∧qGA h ids
 |[],row,ids,q,hc,_,_,g,_=>by
  simp only[qSG,Option.some.injEq,Prod.mk.injEq]at hc
  obtain⟨rfl,rfl,rfl⟩:=hc
  exact⟨rfl,fun j x hj=>by simp at hj,fun j x k hj=>by simp at hj,fun j j' x x' k hj=>by simp at hj,fun b hb=>by simp at hb⟩
 |x::r,row,ids,q,hc,hq,hn,g,hr=>by
  simp only[qSG]at hc
  split at hc
  ·rename_i y i1 q1 l i2 q2 h1 h2
   simp only[Option.some.injEq,Prod.mk.injEq]at hc
   obtain⟨rfl,rfl,rfl⟩:=hc
   have hnd:=List.nodup_append.1 hn
   obtain⟨a1,a2,a3⟩:=hG x y i1 q1 h1 (fun p hp=>hq p (by simp[hp])) hnd.1 (g 0) (hr 0 x rfl)
   obtain⟨b1,b2,b3,b4,b5⟩:=qCr hh hG r l i2 q2 h2 (fun p hp=>hq p (by simp[hp])) hnd.2.1 (fun j=>g (j+1)) fun j z hj=>hr (j+1) z (by simpa using hj)
   have hok:qGA h (i1++i2):=fun b hb=>by
    rcases List.mem_append.1 hb with hb|hb
    ·exact a3 b hb
    ·exact b5 b hb
   have clash:∀j z k,l[j]? =some z→VFoot w y (g 0) k→VFoot w z (g (j+1)) k→False:=fun j z k hj hk hk'=>by
    obtain⟨c1,m1,e1⟩:=a2 k hk
    obtain⟨c2,m2,e2⟩:=b3 j z k hj hk'
    have:=qNx hh hok (by simp[m1]) (by simp[m2]) e1 e2
    exact hnd.2.2 c1 m1 c2 m2 this
   refine⟨by simp[b1],fun j z hj=> ?_,fun j z k hj hk=> ?_,fun j j' z z' k hj hj' hk hk'=> ?_,hok⟩
   ·cases j with
    |zero=>simp at hj;subst hj;exact a1
    |succ j=>exact b2 j z (by simpa using hj)
   ·cases j with
    |zero=>
     simp at hj
     subst hj
     obtain⟨c,m,e⟩:=a2 k hk
     exact⟨c,by simp[m],e⟩
    |succ j=>
     obtain⟨c,m,e⟩:=b3 j z k (by simpa using hj) hk
     exact⟨c,by simp[m],e⟩
   ·cases j with
    |zero=>
     simp at hj
     subst hj
     cases j' with
     |zero=>rfl
     |succ j'=>exact(clash j' z' k (by simpa using hj') hk hk').elim
    |succ j=>
     cases j' with
     |zero=>
      simp at hj'
      subst hj'
      exact(clash j z k (by simpa using hj) hk' hk).elim
     |succ j'=>rw[b4 j j' z z' k (by simpa using hj) (by simpa using hj') hk hk']
  ·cases hc
theorem qDl (hE:∀e,Kd.on e= !(E.fr e)) (hh:HeapRel w M β cp h):∀(d:Nat) (x:AV) (nc:NC) (ids:List Nat) (q:List (Th Prop)),qUH E h d x=some (nc,ids,q)→(∀p∈q,p ())→ids.Nodup→∀v,Rep w M β cp x v→
  OwnV w M nc v∧(∀k,VFoot w nc v k→IdB β ids k)∧qGA h ids
 |0,x,nc,ids,q,hc,_,_,v,_=>by cases hc
 |d+1,x,nc,ids,q,hc,hq,hn,v,hr=>by
  simp only[qUH]at hc
  split at hc
  ·exact qGL hE hh hc hq hr
  ·rename_i b n
   obtain⟨g,hg,hn2,rfl⟩:=qBK hr
   exact qGL hE hh hc hq (.own b n g hg hn2)
  ·rename_i b o
   split at hc
   case h_2=>cases hc
   rename_i l q0 hb
   have q0:=qC.1 q0
   subst q0
   have hb:=qJ hb rfl
   split at hc
   case h_2=>cases hc
   rename_i l' i2 q2 hl
   simp only[Option.some.injEq,Prod.mk.injEq]at hc
   obtain⟨rfl,rfl,rfl⟩:=hc
   obtain⟨g,hg,rfl⟩:=qA7 hr
   obtain⟨g',cur,t,h1,h2,h3,h4,h5⟩:=hh.obj b _ hb
   rw[hg]at h1
   cases h1
   have hnd:=List.nodup_cons.1 hn
   obtain⟨b1,b2,b3,b4,b5⟩:=qCr hh (fun x nc ids q a1 a2 a3 v a4=>qDl hE hh d x nc ids q a1 a2 a3 v a4) l l' i2 q2 hl hq hnd.2 (fun j=>cur.getD j undef) fun j x hj=>by
    rw[qG];exact h4.2 j x hj
   have hok:qGA h (b::i2):=fun c hc=>by
    rcases List.mem_cons.1 hc with rfl|hc
    ·exact⟨_,hb,rfl⟩
    ·exact b5 c hc
   refine⟨.pt l' g cur t h2 h3 h5.one (by rw[b1];simpa using h4.1) b2 b4 (fun j x k hj hk e=> ?_),fun k hk=> ?_,hok⟩
   ·obtain⟨c,m,e1⟩:=b3 j x k hj hk
    have:=qNx hh hok (List.mem_cons_self ..) (List.mem_cons_of_mem _ m) hg (by rw[e1,e])
    exact hnd.1 (this▸m)
   ·cases hk with
    |pt=>exact⟨b,by simp,hg⟩
    |inn _ _ cur' t' fr j x k q1 q2 q3=>
     have q1:w.heap[g]? =some (.cells cur' t' fr):=q1
     rw[h3]at q1
     simp only[Option.some.injEq,Obj.cells.injEq]at q1
     obtain⟨rfl,rfl,rfl⟩:=q1
     obtain⟨c,m,e1⟩:=b3 j x k q2 q3
     exact⟨c,by simp[m],e1⟩
  ·split at hc
   ·rename_i hcl
    simp only[Option.some.injEq,Prod.mk.injEq]at hc
    obtain⟨rfl,rfl,rfl⟩:=hc
    exact⟨.c _ v (qR hr hcl),fun k hk=>(by cases hk),fun b hb=>(by simp at hb)⟩
   ·cases hc
omit [Kd]in
theorem qB2:∀(ids:List Nat) (h:Hp),(qAh ids h).length=h.length
 |[],h=>rfl
 |b::r,h=>by simp[qAh,qB2 r]
omit [Kd]in
theorem qBv:∀(ids:List Nat) (h:Hp) (c:Nat),(qAh ids h)[c]? =if c∈ids then(h[c]?).map fun _=>AObj.dead else h[c]?
 |[],h,c=>by simp[qAh]
 |b::r,h,c=>by
  rw[qAh,qBv r,List.getElem?_set]
  by_cases hbc:b=c
  ·subst hbc
   by_cases hl:b<h.length
   ·simp[hl]
   ·simp[hl]
  ·have:¬c=b:=fun e=>hbc e.symm
   simp[hbc,this]
theorem qI1 (hh:HeapRel w M β cp h) (ids:List Nat):HeapRel w M β cp (qAh ids h)∧(∀k,qAL w β (qAh ids h) k→qAL w β h k)∧(qGA h ids→∀k,IdB β ids k→¬qAL w β (qAh ids h) k):=by
 have hget:∀c o,(qAh ids h)[c]? =some o→o.live=true→c∉ids∧h[c]? =some o:=by
  intro c o hc hl
  rw[qBv]at hc
  split at hc
  ·cases hx:h[c]? with
   |none=>rw[hx]at hc;cases hc
   |some y=>rw[hx]at hc;cases hc;cases hl
  ·rename_i q;exact⟨q,hc⟩
 refine⟨⟨fun c hc=>hh.out c (by rwa [qB2]at hc),fun c o hc=> ?_,fun c c' o o' g g' k hc hc' hl hl' hg hg' hk hk'=>hh.inj2 c c' o o' g g' k (hget c o hc hl).2 (hget c' o' hc' hl').2 hl hl' hg hg' hk hk',hh.dom⟩,
  fun k ⟨c,o,g,hc,hl,hg,hk⟩=>⟨c,o,g,(hget c o hc hl).2,hl,hg,hk⟩,fun hok k ⟨b,hb,hbk⟩ ⟨c,o,g,hc,hl,hg,hk⟩=> ?_⟩
 ·by_cases hl:o.live=true
  ·exact hh.obj c o (hget c o hc hl).2
  ·cases o<;>first|trivial|exact absurd rfl hl
 ·obtain⟨o',h1,h2⟩:=hok b hb
  obtain⟨h3,h4⟩:=hget c o hc hl
  have:=hh.inj2 c b o o' g k k h4 h1 hl h2 hg hbk hk (.self _)
  exact h3 (this▸hb)
theorem HeapRel.set2 (hh:HeapRel w M β cp h) {b:Nat}{o O:AObj}(hb:h[b]? =some o) (hl:o.live=true) (hO:qAo w M β cp b O) (hon:∀g k,β b=some g→Foot w g O k→Foot w g o k∨¬qAL w β h k):
  HeapRel w M β cp (h.set b O)∧∀k,qAL w β (h.set b O) k→qAL w β h k∨∃g,β b=some g∧Foot w g O k:=by
 have hget:∀c x,(h.set b O)[c]? =some x→(c=b∧x=O)∨(c≠b∧h[c]? =some x):=by
  intro c x hc
  by_cases hcb:c=b
  ·subst hcb
   rw[List.getElem?_set_self (List.getElem?_eq_some_iff.1 hb).1]at hc
   exact .inl ⟨rfl,by cases hc;rfl⟩
  ·rw[List.getElem?_set_ne (fun q=>hcb q.symm)]at hc
   exact .inr ⟨hcb,hc⟩
 have clash:∀c x g g' k,c≠b→h[c]? =some x→x.live=true→β c=some g→Foot w g x k→β b=some g'→Foot w g' O k→False:=fun c x g g' k hne hc hlx hg hk hg' hk'=>by
  rcases hon g' k hg' hk' with q|q
  ·exact hne (hh.inj2 c b x o g g' k hc hb hlx hl hg hg' hk q)
  ·exact q ⟨c,x,g,hc,hlx,hg,hk⟩
 refine⟨⟨fun c hc=>hh.out c (by simpa using hc),fun c x hc=> ?_,fun c c' x x' g g' k hc hc' hlx hlx' hg hg' hk hk'=> ?_,hh.dom⟩,fun k ⟨c,x,g,hc,hlx,hg,hk⟩=> ?_⟩
 ·rcases hget c x hc with⟨rfl,rfl⟩|⟨_,hc⟩
  ·exact hO
  ·exact hh.obj c x hc
 ·rcases hget c x hc with⟨rfl,rfl⟩|⟨hne,h1⟩
  ·rcases hget c' x' hc' with⟨rfl,rfl⟩|⟨hne',h1'⟩
   ·rfl
   ·exact(clash c' x' g' g k hne' h1' hlx' hg' hk' hg hk).elim
  ·rcases hget c' x' hc' with⟨rfl,rfl⟩|⟨hne',h1'⟩
   ·exact(clash c x g g' k hne h1 hlx hg hk hg' hk').elim
   ·exact hh.inj2 c c' x x' g g' k h1 h1' hlx hlx' hg hg' hk hk'
 ·rcases hget c x hc with⟨rfl,rfl⟩|⟨hne,h1⟩
  ·exact .inr ⟨g,hg,hk⟩
  ·exact .inl ⟨c,x,g,h1,hlx,hg,hk⟩
omit [Kd]in
theorem qHz:∀{q:List (Th Prop)}{p:Prop},qXE q p→(∀x∈q,x ())∧p
 |[],p,h=>⟨fun x hx=>(by simp at hx),h⟩
 |y::r,p,h=>by
  cases h with
  |mk h1 h2=>
   obtain⟨a1,a2⟩:=qHz h2
   exact⟨fun x hx=>(List.mem_cons.1 hx).elim (fun e=>e▸h1) (a1 x),a2⟩
theorem qFY (hE:∀e,Kd.on e= !(E.fr e)) {b:Nat}{K:Hp→Prop}(hv:qPT E b h K) (hh:HeapRel w M β cp h):∃h',K h'∧HeapRel w M β cp h'∧h'.length=h.length∧∀k,qAL w β h' k→qAL w β h k:=by
 unfold qPT at hv
 split at hv
 case h_2=>exact⟨h,hv,hh,rfl,fun _ h=>h⟩
 rename_i e sz n F k cs hb
 have hb:=qJ hb rfl
 have hbl:b<h.length:=(List.getElem?_eq_some_iff.1 hb).1
 split at hv
 case h_2=>cases hv
 rename_i row ids q hcl
 split at hv
 case h_2=>cases hv
 rename_i hnd hrl
 rw[qK]at hrl
 have hrl:=qC.1 hrl
 obtain⟨hq,hv⟩:=qHz hv
 have hnd:=List.nodup_cons.1 (qEC hnd)
 rcases hh.obj b _ hb with⟨_,_,h3⟩|⟨g,cur,hg,r⟩
 ·cases h3
 obtain⟨p1,p2,p3⟩:=r.opn k cs rfl
 obtain⟨b1,b2,b3,b4,b5⟩:=qCr hh (fun x nc ids q a1 a2 a3 v a4=>qDl hE hh 3 x nc ids q a1 a2 a3 v a4) cs row ids q hcl hq hnd.2 (fun j=>cur.getD (k ()*sz+j) undef) p3
 obtain⟨d1,d2,d3⟩:=qI1 hh ids
 have hdb:(qAh ids h)[b]? =some (.nst e sz n F (some (k,cs))):=by rw[qBv,if_neg hnd.1];exact hb
 have hno:∀j,¬opAt (none:Option (Th Nat×List AV)) j:=fun j q=>q
 have hop:∀j,opAt (some (k,cs)) j↔k ()=j:=fun j=>Iff.rfl
 have hrow:∀j,j<n ()→(qAp (fun _=>decide (j=k ())) row (F fun _=>j)).length=sz∧∀(q:Nat) (z:NC),(qAp (fun _=>decide (j=k ())) row (F fun _=>j))[q]? =some z→OwnV w M z (cur.getD (j*sz+q) undef)∧
   ∀m,VFoot w z (cur.getD (j*sz+q) undef) m→(j=k ()→∃x,row[q]? =some x∧VFoot w x (cur.getD (j*sz+q) undef) m)∧(¬j=k ()→∃x,(F fun _=>j)[q]? =some x∧VFoot w x (cur.getD (j*sz+q) undef) m):=by
  intro j hj
  obtain⟨q1,q2⟩:=qBC (w:=w) (M:=M) (c:=fun _=>decide (j=k ())) row (F fun _=>j) (fun q=>cur.getD (j*sz+q) undef)
   (fun hc q x hx=>by have:j=k ():=by simpa using hc
                      subst this
                      exact b2 q x hx)
   (fun hc q x hx=>by have:¬j=k ():=by simpa using hc
                      exact r.own j q x hj (fun h=>this h.symm) hx)
   (fun hc=>by have:¬j=k ():=by simpa using hc
               rw[r.len j hj (fun h=>this h.symm),hrl])
  refine⟨q1.trans hrl,fun q z hz=>⟨(q2 q z hz).1,fun m hm=>⟨fun e=>((q2 q z hz).2 m hm).1 (by simpa using e),fun e=>((q2 q z hz).2 m hm).2 (by simpa using e)⟩⟩⟩
 have hold:∀j q x m,j<n ()→¬j=k ()→(F fun _=>j)[q]? =some x→VFoot w x (cur.getD (j*sz+q) undef) m→Foot w g (.nst e sz n F (some (k,cs))) m:=fun j q x m hj hne hx hm=>
  .inn e sz n F _ cur j q x m r.cell hj (fun h=>hne h.symm) hx hm
 have sep:∀m,Foot w g (.nst e sz n F (some (k,cs))) m→¬IdB β ids m:=fun m hm ⟨c,hc,hcm⟩=>by
  obtain⟨o,o1,o2⟩:=b5 c hc
  have:=hh.inj2 b c _ o g m m hb o1 rfl o2 hg hcm hm (.self _)
  exact hnd.1 (this▸hc)
 have hO:NstRel w M β cp (cp b) e sz (n ()) (fun i=>qAp (fun _=>decide (i ()=k ())) row (F i)) none g cur:=by
  refine⟨r.hM,r.cell,r.size,r.ones,r.le,r.max,fun j hj _=>(hrow j hj).1,fun j q z hj _ hz=>((hrow j hj).2 q z hz).1,fun j q j' q' z z' m hj hj' _ _ hz hz' hm hm'=> ?_,fun j q z m hj _ hz hm e0=> ?_,fun k cs h=>by cases h⟩
  ·have f1:=((hrow j hj).2 q z hz).2 m hm
   have f2:=((hrow j' hj').2 q' z' hz').2 m hm'
   by_cases e1:j=k ()
   ·obtain⟨x,x1,x2⟩:=f1.1 e1
    rw[e1]at x2
    by_cases e2:j'=k ()
    ·obtain⟨y,y1,y2⟩:=f2.1 e2
     rw[e2]at y2
     exact⟨e1.trans e2.symm,b4 q q' x y m x1 y1 x2 y2⟩
    ·obtain⟨y,y1,y2⟩:=f2.2 e2
     exact absurd (b3 q x m x1 x2) (sep m (hold j' q' y m hj' e2 y1 y2))
   ·obtain⟨x,x1,x2⟩:=f1.2 e1
    by_cases e2:j'=k ()
    ·obtain⟨y,y1,y2⟩:=f2.1 e2
     rw[e2]at y2
     exact absurd (b3 q' y m y1 y2) (sep m (hold j q x m hj e1 x1 x2))
    ·obtain⟨y,y1,y2⟩:=f2.2 e2
     exact r.dis j q j' q' x y m hj hj' (fun h=>e1 h.symm) (fun h=>e2 h.symm) x1 y1 x2 y2
  ·have f1:=((hrow j hj).2 q z hz).2 m hm
   by_cases e1:j=k ()
   ·obtain⟨x,x1,x2⟩:=f1.1 e1
    rw[e1]at x2
    subst e0
    exact sep m (.self _) (b3 q x m x1 x2)
   ·obtain⟨x,x1,x2⟩:=f1.2 e1
    exact r.ne j q x m hj (fun h=>e1 h.symm) x1 x2 e0
 have hfoot:∀m,Foot w g (.nst e sz n (fun i=>qAp (fun _=>decide (i ()=k ())) row (F i)) none) m→Foot w g (.nst e sz n F (some (k,cs))) m∨IdB β ids m:=by
  intro m hm
  cases hm with
  |self=>exact .inl (.self _)
  |inn _ _ _ _ _ cur2 j q z _ g1 g2 g3 g4 g5=>
   rw[r.cell]at g1
   simp only[Option.some.injEq,Obj.cells.injEq]at g1
   obtain⟨rfl,-,-⟩:=g1
   have f1:=((hrow j g2).2 q z g4).2 m g5
   by_cases e1:j=k ()
   ·obtain⟨x,x1,x2⟩:=f1.1 e1
    rw[e1]at x2
    exact .inr (b3 q x m x1 x2)
   ·obtain⟨x,x1,x2⟩:=f1.2 e1
    exact .inl (hold j q x m g2 e1 x1 x2)
 obtain⟨s1,s2⟩:=d1.set2 (O:= .nst e sz n (fun i=>qAp (fun _=>decide (i ()=k ())) row (F i)) none) hdb rfl (.inr ⟨g,cur,hg,hO⟩) (fun g' m hg' hm=>by
  rw[hg]at hg'
  cases hg'
  exact(hfoot m hm).imp id fun q=>d3 b5 m q)
 have e3:qAh ids (h.set b (.nst e sz n (fun i=>qAp (fun _=>decide (i ()=k ())) row (F i)) none))=(qAh ids h).set b (.nst e sz n (fun i=>qAp (fun _=>decide (i ()=k ())) row (F i)) none):=by
  refine List.ext_getElem? fun c=> ?_
  rw[qBv]
  by_cases hcb:c=b
  ·subst hcb
   rw[if_neg hnd.1,List.getElem?_set_self hbl,List.getElem?_set_self (by rw[qB2];exact hbl)]
  ·rw[List.getElem?_set_ne (fun q=>hcb q.symm),List.getElem?_set_ne (fun q=>hcb q.symm),qBv]
 rw[e3]at hv
 refine⟨_,hv,s1,by rw[List.length_set,qB2],fun m hm=> ?_⟩
 rcases s2 m hm with q|⟨g',hg',q⟩
 ·exact d2 m q
 ·rw[hg]at hg'
  cases hg'
  rcases hfoot m q with q|⟨c,hc,hcm⟩
  ·exact⟨b,_,g,hb,rfl,hg,q⟩
  ·obtain⟨o,o1,o2⟩:=b5 c hc
   exact⟨c,o,m,o1,o2,hcm,.self _⟩
theorem qDA (hE:∀e,Kd.on e= !(E.fr e)):∀(b:Nat) (h:Hp) (K:Hp→Prop),qMq E b h K→HeapRel w M β cp h→∃h',K h'∧HeapRel w M β cp h'∧h'.length=h.length∧∀k,qAL w β h' k→qAL w β h k
 |0,h,K,hv,hh=>⟨h,hv,hh,rfl,fun _ h=>h⟩
 |b+1,h,K,hv,hh=>by
  obtain⟨h1,a1,a2,a3,a4⟩:=qFY hE hv hh
  obtain⟨h2,b1,b2,b3,b4⟩:=qDA hE b h1 K a1 a2
  exact⟨h2,b1,b2,b3.trans a3,fun k hk=>a4 k (b4 k hk)⟩
theorem qDB (hE:∀e,Kd.on e= !(E.fr e)) {b:Nat}{i:Th Nat}{K:Hp→Prop}(hv:qMr E b i h K) (hh:HeapRel w M β cp h):
  ∃h' β' cp',K h'∧HeapRel w M β' cp' h'∧(∀c,β c≠none→β' c=β c∧cp' c=cp c)∧∀k,qAL w β' h' k→qAL w β h k:=by
 unfold qMr at hv
 split at hv
 ·rename_i k cs hb
  cases hv with
  |mk h1 h2=>
   cases h1 with|mk h1=>cases h2 with|mk h2=>
   by_cases e:i ()=k ()
   ·exact⟨h,β,cp,(h1 e).out,hh,fun _ _=>⟨rfl,rfl⟩,fun _ h=>h⟩
   ·obtain⟨h3,a1,a2,a3,a4⟩:=qFY hE (h2 e).out hh
    obtain⟨h4,β',cp',b1,b2,b3,b4⟩:=qFX a1 a2
    exact⟨h4,β',cp',b1,b2,b3,fun k hk=>a4 k (b4 k hk)⟩
 ·exact qFX hv hh
 ·exact⟨h,β,cp,hv,hh,fun _ _=>⟨rfl,rfl⟩,fun _ h=>h⟩
theorem qKe (hE:∀e,Kd.on e= !(E.fr e)) {o:Oper}{s:Tm}{K:Hp→Prop}(hv:qSH E o s h K) (hh:HeapRel w M β cp h):
  ∃h' β' cp',K h'∧HeapRel w M β' cp' h'∧(∀c,β c≠none→β' c=β c∧cp' c=cp c)∧∀k,qAL w β' h' k→qAL w β h k:=by
 have triv:K h→∃h' β' cp',K h'∧HeapRel w M β' cp' h'∧(∀c,β c≠none→β' c=β c∧cp' c=cp c)∧∀k,qAL w β' h' k→qAL w β h k:=fun hk=>⟨h,β,cp,hk,hh,fun _ _=>⟨rfl,rfl⟩,fun _ h=>h⟩
 unfold qSH at hv
 split at hv
 ·split at hv
  ·exact qDB hE hv hh
  ·exact triv hv
 ·split at hv
  ·exact qDB hE hv hh
  ·exact triv hv
 ·exact triv hv
end
end Go.Abs
namespace Go.Abs
open Go
variable [Kd]
section
variable {P:Program}{E:Env}{w w':World}{M M':Nat→Prop}{β β':Nat→Option Nat}{cp cp':Nat→Nat}{h h':Hp}{o:Oper}{a:Act}{s:Tm}
def qA0 (cur:Array Value) (o sz:Nat):List AV:=(List.range sz).map fun j=> .con fun _=>cur.getD (o+j) undef
theorem qGM {cur:Array Value}{o sz j:Nat}{x:AV}(hj:(qA0 cur o sz)[j]? =some x):j<sz∧x= .con fun _=>cur.getD (o+j) undef:=by
 unfold qA0 at hj
 rw[List.getElem?_map]at hj
 rcases Nat.lt_or_ge j sz with h1|h1
 ·rw[List.getElem?_range h1]at hj
  cases hj
  exact⟨h1,rfl⟩
 ·rw[List.getElem?_eq_none (by simpa using h1)]at hj
  cases hj
theorem qI2 {cur:Array Value}{o sz j:Nat}(hj:j<sz):(qA0 cur o sz).getD j .any= .con fun _=>cur.getD (o+j) undef:=by
 unfold qA0
 rw[List.getD_eq_getElem?_getD,List.getElem?_map,List.getElem?_range hj]
 rfl
theorem HeapRel.plain (hh:HeapRel w M β cp h) {b:Nat}{e sz:Nat}{k:Th Nat}{F:Th Nat→List NC}(hb:h[b]? =some (.nst e sz k F none)):
  ∃cur:Array Value,(∀g,β b=some g→NstRel w M β cp (cp b) e sz (k ()) F none g cur)∧HeapRel w M β cp (h.set b (.vec e sz k fun i=>qA0 cur (i ()*sz) sz))∧∀q,qAL w β (h.set b (.vec e sz k fun i=>qA0 cur (i ()*sz) sz)) q→qAL w β h q:=by
 have key:∀cur:Array Value,qAo w M β cp b (.vec e sz k fun i=>qA0 cur (i ()*sz) sz)→HeapRel w M β cp (h.set b (.vec e sz k fun i=>qA0 cur (i ()*sz) sz))∧∀q,qAL w β (h.set b (.vec e sz k fun i=>qA0 cur (i ()*sz) sz)) q→qAL w β h q:=fun cur hO=>
  hh.set1 (w':=w) (M':=M) hb rfl (fun _ _ hM=>⟨rfl,hM⟩) hO (fun g q _ hq=>by rw[hq.eq nofun];exact .self _) (fun _ _ _ _ _ _ _ _ _=>⟨rfl,id⟩) hh.dom.1
 rcases hh.obj b _ hb with⟨h1,h2,_⟩|⟨g,cur,hg,r⟩
 ·exact⟨#[],fun g hg=>by rw[h1]at hg;(cases hg),key #[] (.inl ⟨h1,h2⟩)⟩
 ·refine⟨cur,fun g' hg'=>by rw[hg]at hg';cases hg';exact r,key cur (.inr ⟨g,cur,hg,r.hM,r.cell,r.size,r.ones,r.le,r.max,fun i hi=>by simp[qA0],fun i j x hi hj=> ?_⟩)⟩
  obtain⟨h1,rfl⟩:=qGM hj
  refine .con (fun _=>cur.getD (i*sz+j) undef) (r.ones.one _ ?_)
  have:=Nat.mul_le_mul_right sz (show i+1≤k () by omega)
  rw[Nat.succ_mul]at this
  omega
omit [Kd]in
theorem qGN {V O:AObj}:∀(X:Hp) (n i:Nat),(qAz (n+i) n (X.set i V)).set i O=qAz (n+i) n (X.set i O)
 |[],_,_=>by simp[qAz]
 |x::r,n,0=>by
  simp only[List.set_cons_zero,qAz,Nat.add_zero]
  rw[qC.2 rfl]
 |x::r,n,i+1=>by
  simp only[List.set_cons_succ,qAz]
  rw[show n+(i+1)=n+1+i by omega,qGN r (n+1) i]
theorem qMt {V:AObj}{X:Hp}{b:Nat}(hb:b<X.length):(qAz b 0 (X.set b V))[b]? =some V:=by
 have hl:b<(qAz b 0 (X.set b V)).length:=by rw[qDk,List.length_set];exact hb
 obtain⟨x,h1,h2⟩:=qDj _ 0 b _ (List.getElem?_eq_getElem hl)
 rw[List.getElem?_set_self hb]at h1
 cases h1
 rcases h2 with⟨_,h2⟩|⟨h2,_⟩
 ·rw[List.getElem?_eq_getElem hl,h2]
 ·omega
theorem qLk {x:Th Value}{v:Value}(h:RepC w M (.con x) v):v=x ():=by cases h;rfl
theorem qNy {c:Th Bool}{x y:Th Value}{v:Value}(h:RepC w M (AV.pick c (.con x) (.con y)) v):v=if c ()=true then x ()else y ():=by
 have h:RepC w M (.ite c (.con x) (.con y)) v:=h
 cases h with
 |ite _ _ _ _ h1 h2=>
  split
  ·rename_i q;exact qLk (h1 q)
  ·rename_i q;exact qLk (h2 (by simpa using q))
theorem qMu (hE:EnvOk P E) {c:Call}(ho:o.op= .call c) (hcal:c.callee= .builtin .append) (hh:HeapRel w M β cp h) (hx:∀x,Rep w M β cp (ev s x) (a.eval x)) {K:qBm}
  (hz:∀t e sz b z,E.ty t= .slice e sz b z→z.length=sz) {e sz bytes b2:Nat}{m:Th Nat}{cs:List AV}{X:AV}(hi:qHv E c s h=some (e,sz,bytes,b2,m,cs,X)) (hv:qSI E e sz bytes b2 m cs X h K):qIY P o a w M β cp h K:=by
 unfold qHv at hi
 split at hi
 case h_2=>cases hi
 rename_i t t' x y hta ha
 split at hi
 case h_2=>cases hi
 rename_i e1 sz1 bytes1 z b1 m1 q0 hT hY
 split at hi
 case h_2=>cases hi
 rename_i cs1 hb2
 simp only[Option.some.injEq,Prod.mk.injEq]at hi
 obtain⟨rfl,rfl,rfl,rfl,rfl,rfl,rfl⟩:=hi
 have q0:=qC.1 q0
 subst q0
 have hTy:=hE.ty t
 rw[hT]at hTy
 have hzl:=hz t e1 sz1 bytes1 z hT
 have hargs:c.args= #[x,y]:=Array.toList_inj.1 ha
 have hats:c.argTypes= #[t,t]:=Array.toList_inj.1 hta
 have run:∀v' w',(Builtin.append_ #[t,t] o.type #[a.eval x,a.eval y]).run P w= .ok v' w'→(execOp a.eval o).run P w= .ok (.value v') w':=by
  intro v' w' hv'
  simp[execOp,ho,resolve,hcal,invoke,builtin,hargs,hats,hv']
 unfold qSI at hv
 split at hv
 case h_2=>cases hv
 rename_i row ids q hcl
 split at hv
 case h_2=>cases hv
 rename_i b n hrl hX
 rw[qK]at hrl
 have hrl:=qC.1 hrl
 split at hv
 case h_2=>cases hv
 rename_i e' sz' k F hnd hb
 split at hv
 case h_2=>cases hv
 rename_i q1 q2
 have q1:=qC.1 q1
 have q2:=qC.1 q2
 subst q1 q2
 obtain⟨hq,hv⟩:=qHz hv
 cases hv with
 |mk hob hK=>
 obtain⟨hm1,hnk,hby,hmx⟩:=hob
 have hb:=qJ hb rfl
 have hb2:=qJ hb2 rfl
 have hnd:=qEC hnd
 obtain⟨hnb,hnd2⟩:=List.nodup_cons.1 hnd
 obtain⟨hnb2,hndi⟩:=List.nodup_cons.1 hnd2
 have hx0:=hx x
 rw[hX]at hx0
 have hy0:=hx y
 rw[hY]at hy0
 obtain⟨g2,cur2,t2,hg2,hM2,hc2,hL2,hk2⟩:=hh.obj b1 _ hb2
 obtain⟨hy1,hcl2⟩:a.eval y= .slice (some ⟨g2,0,none⟩) 1 (cp b1)∧1≤cp b1:=by
  rcases qW hy0 with⟨h0,_⟩|⟨g',h1,h2,h3⟩
  ·omega
  ·rw[hg2]at h1;cases h1
   rw[hm1]at h2 h3
   exact⟨h3,h2⟩
 have hs2:cur2.size=sz1:=by
  have h1:=hL2.1
  simp at h1
  have h2:=(qCr hh (fun x nc ids q a1 a2 a3 v a4=>qDl hE.fr hh 3 x nc ids q a1 a2 a3 v a4) cs1 row ids q hcl hq hndi (fun j=>cur2.toList.getD j undef) hL2.2).1
  omega
 obtain⟨r1,r2,r3,r4,r5⟩:=qCr hh (fun x nc ids q a1 a2 a3 v a4=>qDl hE.fr hh 3 x nc ids q a1 a2 a3 v a4) cs1 row ids q hcl hq hndi (fun j=>cur2.toList.getD j undef) hL2.2
 have hok:qGA h (b1::ids):=fun c hc=>by
  rcases List.mem_cons.1 hc with rfl|hc
  ·exact⟨_,hb2,rfl⟩
  ·exact r5 c hc
 obtain⟨d1,d2,d3⟩:=qI1 hh (b1::ids)
 have hdb:(qAh (b1::ids) h)[b]? =some (.nst e1 sz1 k F none):=by rw[qBv,if_neg hnb];exact hb
 obtain⟨cur,hN,p1,p2⟩:=d1.plain hdb
 have hbl:b<h.length:=(List.getElem?_eq_some_iff.1 hb).1
 have hlen1:(qAh (b1::ids) h).length=h.length:=qB2 _ _
 have hget1:nth .dead ((qAh (b1::ids) h).set b (.vec e1 sz1 k fun i=>qA0 cur (i ()*sz1) sz1)) b= .vec e1 sz1 k fun i=>qA0 cur (i ()*sz1) sz1:=by
  rw[qAt,List.getD_eq_getElem?_getD,List.getElem?_set_self (by rw[hlen1];exact hbl)]
  rfl
 have hnews:∀u∈cur2.toList,u.oneCell'=true:=fun u hu=>hk2.one u (by simpa using hu)
 have hapart:∀z,qAL w β ((qAh (b1::ids) h).set b (.vec e1 sz1 k fun i=>qA0 cur (i ()*sz1) sz1)) z→qAL w β (qAh (b1::ids) h) z∧∀g,β b=some g→(∀i j x,i<k ()→(F fun _=>i)[j]? =some x→¬VFoot w x (cur.getD (i*sz1+j) undef) z):=by
  intro z hz
  refine⟨p2 z hz,fun g hg i j x hi hx hk=> ?_⟩
  have hin:Foot w g (.nst e1 sz1 k F none) z:= .inn e1 sz1 k F none cur i j x z (hN g hg).cell hi (fun q=>q) hx hk
  obtain⟨c,o',g',hc,hl,hgc,hkc⟩:=hz
  by_cases hcb:c=b
  ·subst hcb
   rw[List.getElem?_set_self (by rw[hlen1];exact hbl)]at hc
   cases hc
   rw[hg]at hgc
   cases hgc
   have:=hkc.eq nofun
   exact(hN g hg).ne i j x z hi (fun q=>q) hx hk this
  ·rw[List.getElem?_set_ne (fun q=>hcb q.symm)]at hc
   exact hcb (d1.inj2 c b o' _ g' g z hc hdb hl rfl hgc hg hkc hin)
 have hgood:=qEz (P:=P) (o:=o) (a:=a) (M:=M) (β:=β) (cp:=cp) (h:=(qAh (b1::ids) h).set b (.vec e1 sz1 k fun i=>qA0 cur (i ()*sz1) sz1)) (x:=x) (b:=b) (e:=e1) (sz:=sz1) (n:=n) (k:=k) (m:=m1)
  (f:=fun i=>qA0 cur (i ()*sz1) sz1) (g:=fun _=>qA0 cur2 0 sz1) (news:=cur2.toList)
  (K:=fun v h' kl=>v= .own b (fun _=>n ()+m1 ())∧h'=qAz b 0 ((qAh (b1::ids) h).set b (.vec e1 sz1 (fun _=>n ()+m1 ()) fun j=>qBB sz1 (fun _=>decide (j ()<n ())) (qA0 cur (j ()*sz1) sz1) (qA0 cur2 0 sz1)))∧kl=[b])
  p1 hx0 hget1 (by omega) (.inr (by omega)) hnews
  (fun i j z hi hj=>by
    have hi0:i=0:=by omega
    subst hi0
    obtain⟨hjs,rfl⟩:=qGM hj
    have e3:cur2.toList.getD (0*sz1+j) undef=cur2.getD (0+j) undef:=by rw[qG];simp
    rw[e3]
    refine .con (fun _=>cur2.getD (0+j) undef) ?_
    have:0+j<cur2.size:=by omega
    simp only[Array.getD,this,dif_pos]
    exact hk2.one _ (Array.getElem_mem this))
  (fun xs hown hsp=>by
    obtain⟨v',w',a1,a2⟩:=qA3 (P:=P) (ty:=o.type) (m:=m1 ()) (c:=cp b1) (news:=cur2.toList) (ao:=some ⟨g2,0,none⟩) hTy hzl hown (by simp[hs2,hm1]) (.inr ⟨⟨g2,0,none⟩,rfl,fun j u hj=>by
     have hj2:cur2[j]? =some u:=by simpa using hj
     have hlt:=(Array.getElem?_eq_some_iff.1 hj2).1
     rw[addr_add,cell_of_row hc2 (show 0+j<cur2.size by omega)]
     have:=(Array.getElem?_eq_some_iff.1 hj2).2
     simp[←this]⟩) hnews (by unfold maxLen;rw[hm1];omega) (by rw[hm1];exact hby) hsp
    exact⟨v',w',run v' w' (by rw[hy1];rw[hm1]at a1;exact a1),a2⟩)
  ⟨rfl,by rw[List.set_set],rfl⟩
 obtain⟨v',w',M',β',cp',v,h2,kl,hrun,⟨rfl,rfl,rfl⟩,hh2,hak,hrep⟩:=hgood
 generalize hV:(AObj.vec e1 sz1 (fun _=>n ()+m1 ()) fun j=>qBB sz1 (fun _=>decide (j ()<n ())) (qA0 cur (j ()*sz1) sz1) (qA0 cur2 0 sz1))=V at hh2 hak
 have hVl:V.live=true:=by rw[←hV];rfl
 have hVn:∀e sz n F op,V≠ .nst e sz n F op:=by rw[←hV];exact nofun
 have hbV:(qAz b 0 ((qAh (b1::ids) h).set b V))[b]? =some V:=qMt (by rw[hlen1];exact hbl)
 have hobj:=hh2.obj b _ hbV
 rw[←hV]at hobj
 rcases hobj with⟨_,h0⟩|⟨g',cur',e1',e2',e3',e4',e5',e6',e7',e8',e9'⟩
 ·have h0:n ()+m1 ()=0:=h0
  omega
 have e5':OneSp cur' e1 sz1 (n ()+1) (cp' b):=by have e5':OneSp cur' e1 sz1 (n ()+m1 ()) (cp' b):=e5';rwa [hm1]at e5'
 have e6':n ()+1≤cp' b:=by have e6':n ()+m1 ()≤cp' b:=e6';rwa [hm1]at e6'
 have hval:∀i j,i<n ()+1→j<sz1→cur'.getD (i*sz1+j) undef=if i<n ()then cur.getD (i*sz1+j) undef else cur2.toList.getD j undef:=by
  intro i j hi hj
  have hjl:j<(qBB sz1 (fun _=>decide (i<n ())) (qA0 cur (i*sz1) sz1) (qA0 cur2 0 sz1)).length:=by rw[qCa];exact hj
  have h1:=e9' i j _ (by show i<n ()+m1 ();omega) (List.getElem?_eq_getElem hjl)
  obtain⟨_,h3⟩:=qBz _ _ _ _ _ _ (List.getElem?_eq_getElem hjl)
  rw[h3,qI2 hj,qI2 hj]at h1
  rw[qNy h1,qG]
  simp
 have hown:∀z,qAL w' β' (qAz b 0 ((qAh (b1::ids) h).set b V)) z→(qAL w β (qAh (b1::ids) h) z∧∀g,β b=some g→∀i j x,i<k ()→(F fun _=>i)[j]? =some x→¬VFoot w x (cur.getD (i*sz1+j) undef) z)∨w.heap.size≤z:=fun z hz=>(hak.own z hz).imp (hapart z) id
 have hgk:∀i,i<k ()→∃g,β b=some g:=fun i hi=>by
  rcases d1.obj b _ hdb with⟨_,h0,_⟩|⟨g,_,hg,_⟩
  ·omega
  ·exact⟨g,hg⟩
 have keepF:∀i j x,i<n ()→(F fun _=>i)[j]? =some x→OwnV w' M' x (cur.getD (i*sz1+j) undef)∧∀z,VFoot w' x (cur.getD (i*sz1+j) undef) z→VFoot w x (cur.getD (i*sz1+j) undef) z:=by
  intro i j x hi hx
  obtain⟨g,hg⟩:=hgk i (by omega)
  have ho:=(hN g hg).own i j x (by omega) (fun q=>q) hx
  refine ho.keep hak.keep fun z hz=>⟨hak.ext.block z (hz.own ho).2 fun hB=>(hapart z hB).2 g hg i j x (by omega) hx hz,hak.ext.sub z (hz.own ho).2 fun hB=>(hapart z hB).2 g hg i j x (by omega) hx hz⟩
 have rowB:∀j x z,row[j]? =some x→VFoot w x (cur2.toList.getD j undef) z→¬qAL w β (qAh (b1::ids) h) z:=fun j x z hj hz=>by
  obtain⟨c,hc,hcz⟩:=r3 j x z hj hz
  exact d3 hok z ⟨c,List.mem_cons_of_mem _ hc,hcz⟩
 have keepR:∀j x,row[j]? =some x→OwnV w' M' x (cur2.toList.getD j undef)∧∀z,VFoot w' x (cur2.toList.getD j undef) z→VFoot w x (cur2.toList.getD j undef) z:=by
  intro j x hx
  have ho:=r2 j x hx
  refine ho.keep hak.keep fun z hz=>⟨hak.ext.block z (hz.own ho).2 fun hB=>rowB j x z hx hz (p2 z hB),hak.ext.sub z (hz.own ho).2 fun hB=>rowB j x z hx hz (p2 z hB)⟩
 have hFl:∀i,i<n ()→(F fun _=>i).length=sz1:=fun i hi=>by
  obtain⟨g,hg⟩:=hgk i (by omega)
  exact(hN g hg).len i (by omega) fun q=>q
 have hjF:∀i j x,i<n ()→(F fun _=>i)[j]? =some x→j<sz1:=fun i j x hi hx=>by
  have:=(List.getElem?_eq_some_iff.1 hx).1
  rwa [hFl i hi]at this
 have hjR:∀j x,row[j]? =some x→j<sz1:=fun j x hx=>by
  have:=(List.getElem?_eq_some_iff.1 hx).1
  rwa [hrl]at this
 have hrow:∀i,i<n ()+1→(qAp (fun _=>decide (n ()≤i)) row (F fun _=>i)).length=sz1∧∀(j:Nat) (z:NC),(qAp (fun _=>decide (n ()≤i)) row (F fun _=>i))[j]? =some z→OwnV w' M' z (cur'.getD (i*sz1+j) undef)∧
   ∀q,VFoot w' z (cur'.getD (i*sz1+j) undef) q→(n ()≤i→∃x,row[j]? =some x∧VFoot w x (cur2.toList.getD j undef) q)∧(i<n ()→∃x,(F fun _=>i)[j]? =some x∧VFoot w x (cur.getD (i*sz1+j) undef) q):=by
  intro i hi
  obtain⟨q1,q2⟩:=qBC (w:=w') (M:=M') (c:=fun _=>decide (n ()≤i)) row (F fun _=>i) (fun j=>cur'.getD (i*sz1+j) undef)
   (fun hc j x hj=>by
     have hc:n ()≤i:=by simpa using hc
     rw[hval i j hi (hjR j x hj),if_neg (by omega)]
     exact(keepR j x hj).1)
   (fun hc j x hj=>by
     have hc:i<n ():=by simpa using hc
     rw[hval i j hi (hjF i j x hc hj),if_pos hc]
     exact(keepF i j x hc hj).1)
   (fun hc=>by
     have hc:i<n ():=by simpa using hc
     rw[hFl i hc,hrl])
  refine⟨q1.trans hrl,fun j z hj=>⟨(q2 j z hj).1,fun q hq=>⟨fun hc=> ?_,fun hc=> ?_⟩⟩⟩
  ·obtain⟨x,x1,x2⟩:=((q2 j z hj).2 q hq).1 (by simpa using hc)
   rw[hval i j hi (hjR j x x1),if_neg (by omega)]at x2
   exact⟨x,x1,(keepR j x x1).2 q x2⟩
  ·obtain⟨x,x1,x2⟩:=((q2 j z hj).2 q hq).2 (by simpa using hc)
   rw[hval i j hi (hjF i j x hc x1),if_pos hc]at x2
   exact⟨x,x1,(keepF i j x hc x1).2 q x2⟩
 have hinF:∀i j x q,i<n ()→(F fun _=>i)[j]? =some x→VFoot w x (cur.getD (i*sz1+j) undef) q→qAL w β (qAh (b1::ids) h) q:=fun i j x q hi hx hq=>by
  obtain⟨g,hg⟩:=hgk i (by omega)
  exact⟨b,_,g,hdb,rfl,hg,.inn e1 sz1 k F none cur i j x q (hN g hg).cell (by omega) (fun h=>h) hx hq⟩
 have hnot:∀i j z q,i<n ()+1→(qAp (fun _=>decide (n ()≤i)) row (F fun _=>i))[j]? =some z→VFoot w' z (cur'.getD (i*sz1+j) undef) q→¬qAL w' β' (qAz b 0 ((qAh (b1::ids) h).set b V)) q:=by
  intro i j z q hi hj hq hB
  rcases Nat.lt_or_ge i (n ())with hc|hc
  ·obtain⟨x,x1,x2⟩:=(((hrow i hi).2 j z hj).2 q hq).2 hc
   obtain⟨g,hg⟩:=hgk i (by omega)
   rcases hown q hB with⟨_,h2⟩|h2
   ·exact h2 g hg i j x (by omega) x1 x2
   ·have:=(x2.own ((hN g hg).own i j x (by omega) (fun q=>q) x1)).2;omega
  ·obtain⟨x,x1,x2⟩:=(((hrow i hi).2 j z hj).2 q hq).1 hc
   rcases hown q hB with⟨h1,_⟩|h2
   ·exact rowB j x q x1 x2 h1
   ·have:=(x2.own (r2 j x x1)).2;omega
 have hO:NstRel w' M' β' cp' (cp' b) e1 sz1 (n ()+1) (fun j=>qAp (fun _=>decide (n ()≤j ())) row (F j)) none g' cur':=by
  refine⟨e2',e3',e4',e5',e6',e7',fun i hi _=>(hrow i hi).1,fun i j z hi _ hz=>((hrow i hi).2 j z hz).1,fun i j i' j' z z' q hi hi' _ _ hz hz' hq hq'=> ?_,fun i j z q hi _ hz hq e0=> ?_,fun k cs h=>by cases h⟩
  ·have f1:=((hrow i hi).2 j z hz).2 q hq
   have f2:=((hrow i' hi').2 j' z' hz').2 q hq'
   rcases Nat.lt_or_ge i (n ())with hc|hc
   ·obtain⟨x,x1,x2⟩:=f1.2 hc
    rcases Nat.lt_or_ge i' (n ())with hc'|hc'
    ·obtain⟨y,y1,y2⟩:=f2.2 hc'
     obtain⟨g,hg⟩:=hgk i (by omega)
     exact(hN g hg).dis i j i' j' x y q (by omega) (by omega) (fun h=>h) (fun h=>h) x1 y1 x2 y2
    ·obtain⟨y,y1,y2⟩:=f2.1 hc'
     exact absurd (hinF i j x q hc x1 x2) (rowB j' y q y1 y2)
   ·obtain⟨x,x1,x2⟩:=f1.1 hc
    rcases Nat.lt_or_ge i' (n ())with hc'|hc'
    ·obtain⟨y,y1,y2⟩:=f2.2 hc'
     exact absurd (hinF i' j' y q hc' y1 y2) (rowB j x q x1 x2)
    ·obtain⟨y,y1,y2⟩:=f2.1 hc'
     exact⟨by omega,r4 j j' x y q x1 y1 x2 y2⟩
  ·subst e0
   exact hnot i j z q hi hz hq ⟨b,V,q,hbV,hVl,e1',.self _⟩
 have hfoot:∀q,Foot w' g' (.nst e1 sz1 (fun _=>n ()+1) (fun j=>qAp (fun _=>decide (n ()≤j ())) row (F j)) none) q→q=g'∨((∃i j z,i<n ()+1∧(qAp (fun _=>decide (n ()≤i)) row (F fun _=>i))[j]? =some z∧VFoot w' z (cur'.getD (i*sz1+j) undef) q)):=by
  intro q hq
  cases hq with
  |self=>exact .inl rfl
  |inn _ _ _ _ _ curx i j z _ g1 g2 g3 g4 g5=>
   rw[e3']at g1
   simp only[Option.some.injEq,Obj.cells.injEq]at g1
   obtain⟨rfl,-,-⟩:=g1
   exact .inr ⟨i,j,z,g2,g4,g5⟩
 obtain⟨s1,s2⟩:=hh2.set2 (O:= .nst e1 sz1 (fun _=>n ()+1) (fun j=>qAp (fun _=>decide (n ()≤j ())) row (F j)) none) hbV hVl (.inr ⟨g',cur',e1',hO⟩) (fun g'' q hg'' hq=>by
  rw[e1']at hg''
  cases hg''
  rcases hfoot q hq with rfl|⟨i,j,z,h1,h2,h3⟩
  ·exact .inl (.self _)
  ·exact .inr (hnot i j z q h1 h2 h3))
 have eH:=qGN (V:=V) (O:= .nst e1 sz1 (fun _=>n ()+1) (fun j=>qAp (fun _=>decide (n ()≤j ())) row (F j)) none) (qAh (b1::ids) h) 0 b
 rw[Nat.zero_add]at eH
 rw[eH]at s1 s2
 have eN:(fun _:Unit=>n ()+m1 ())=fun _=>n ()+1:=funext fun _=>by rw[hm1]
 rw[eN]at hrep
 refine⟨v',w',M',β',cp',_,_,[b],hrun,hK,s1,⟨hak.keep,hak.bk,⟨hak.ext.os,hak.ext.tape,hak.ext.output,hak.ext.size,fun q hq hB=>hak.ext.block q hq fun h1=>hB (d2 q (p2 q h1)),fun q hq hB=>hak.ext.sub q hq fun h1=>hB (d2 q (p2 q h1)),hak.ext.new⟩,fun q hq=> ?_⟩,hrep⟩
 rcases s2 q hq with h1|⟨g'',hg'',h1⟩
 ·exact(hown q h1).imp (fun h=>d2 q h.1) id
 ·rw[e1']at hg''
  cases hg''
  rcases hfoot q h1 with rfl|⟨i,j,z,h2,h3,h4⟩
  ·exact(hown q ⟨b,V,q,hbV,hVl,e1',.self _⟩).imp (fun h=>d2 q h.1) id
  ·rcases Nat.lt_or_ge i (n ())with hc|hc
   ·obtain⟨x,x1,x2⟩:=(((hrow i h2).2 j z h3).2 q h4).2 hc
    exact .inl (d2 q (hinF i j x q hc x1 x2))
   ·obtain⟨x,x1,x2⟩:=(((hrow i h2).2 j z h3).2 q h4).1 hc
    obtain⟨c,hc1,hc2⟩:=r3 j x q x1 x2
    obtain⟨o',o1,o2⟩:=r5 c hc1
    exact .inl ⟨c,o',q,o1,o2,hc2,.self _⟩
end
end Go.Abs
