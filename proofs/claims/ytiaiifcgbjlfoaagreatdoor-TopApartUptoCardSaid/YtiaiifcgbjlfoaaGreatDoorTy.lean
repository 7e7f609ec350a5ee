/- The program's functions, walked: Ty. -/
import Derived.Test.YtiaiifcgbjlfoaaGreatDoorAbsG4
import Derived.Test.YtiaiifcgbjlfoaaGreatDoorAbsG5
import Derived.Test.YtiaiifcgbjlfoaaGreatDoorRows
import Derived.KernelRfl
import Derived.JoinedCond
import Derived.WalkKit
import Derived.ProofKit
import Derived.OpenShut
import Derived.ShutString
import Derived.ChangeOld
set_option linter.all false
namespace Go.Proofs.YtiaiifcgbjlfoaaGreatDoor
open Go Go.Abs
def frs:TypeId→Bool:=fun t=>match t with|5=>true|9=>true|_=>false
def bds:FuncId→Bool:=fun f=>match f with|80=>true|81=>true|82=>true|83=>true|_=>false
theorem qOe {w w':World}{g:Nat}(h:w'.heap[g]? =w.heap[g]?) (k:∃m:Int,w.cell? ⟨g,0,none⟩=some (.int .i64 m)):∃m:Int,w'.cell? ⟨g,0,none⟩=some (.int .i64 m):=by
 obtain⟨m,hm⟩:=k
 exact⟨m,(World.cell?_of_block h).trans hm⟩
theorem qLF {P:Program}{w w':World}{g:Nat}{n:String}(hg:P.globalNamed n=some g) (h:w'.heap[g]? =w.heap[g]?) (k:∃t p,w.var? P n=some #[.iface t p]):∃t p,w'.var? P n=some #[.iface t p]:=by
 obtain⟨t,p,hm⟩:=k
 refine⟨t,p, ?_⟩
 unfold World.var? at hm ⊢
 rw[hg]at hm ⊢
 simp only[Option.bind_some]at hm ⊢
 rw[h];exact hm
noncomputable instance kdI:Kd:=⟨fun e=>match Tryz.prog.info? e with|some i=>(match i.zero with|some zv=>zv.cells.toList|none=>[])|none=>[],fun e=> !(frs e),bds,[1,0,4,5],fun w=>Lib.TabIs Tryz.prog w "internal/strconv.uint64pow10" .u64 Lib.pow10Tab∧(∃m:Int,w.cell? ⟨0,0,none⟩=some (.int .i64 m))∧(∃t p,w.var? Tryz.prog "strconv.ErrSyntax" =some #[.iface t p])∧(∃t p,w.var? Tryz.prog "strconv.ErrRange" =some #[.iface t p]),fun w w' h=>by
 intro⟨h0,h1,h2,h3⟩
 exact⟨qQc (g:=1) (by kernel_rfl) (h 1 (by simp)) h0,qOe (h 0 (by simp)) h1,qLF (g:=4) (by kernel_rfl) (h 4 (by simp)) h2,qLF (g:=5) (by kernel_rfl) (h 5 (by simp)) h3⟩⟩
structure U8 where
 n:Int
 deriving DecidableEq
instance leafU:Leaf U8 where
 av x:= .i .u8 fun _=>(x ()).n
 val a:=match a with| .i _ n=>⟨n ()⟩|_=>⟨0⟩
 ok a:=match a with| .i .u8 _=>True|_=>False
 hclosed _:=rfl
 hval _:=rfl
 hok _:=trivial
 hle a h:=by
  split at h
  ·exact .mk (.mk rfl) (.mk rfl)
  ·cases h
 hpick c a b h1 h2:=by
  split at h1
  ·split at h2
   ·refine⟨trivial, ?_⟩
    show U8.mk (bif c ()then _ else _)=_
    cases c ()<;>rfl
   ·cases h2
  ·cases h1
instance datU:Dat U8:=Dat.ofLeaf U8 ⟨0⟩
instance sizU:Siz U8:=⟨fun _=>True,fun _=>1⟩
structure Span where
 frm:Int
 to:Int
 deriving DecidableEq
instance datSpan:Dat Span where
 d0:=⟨0,0⟩
 sz:=2
 enc x:=[Leaf.av fun _=>(x ()).frm,Leaf.av fun _=>(x ()).to]
 dec l:=match l with|[a0,a1]=>⟨Leaf.val a0,Leaf.val a1⟩|_=>⟨0,0⟩
 ok l:=match l with|[a0,a1]=>Leaf.ok Int a0∧Leaf.ok Int a1|_=>False
 hlen _:=rfl
 hclosed x:=by simp only[qL,Leaf.hclosed]
 hdec x:=by simp only[Leaf.hval]
 hok x:=⟨Leaf.hok _,Leaf.hok _⟩
 hle l h:=by
  split at h
  ·obtain⟨k0,k1⟩:=h
   exact .mk (Leaf.hle _ k0) (.mk (Leaf.hle _ k1) (trivial))
  ·cases h
 hpick c l m h1 h2:=by
  split at h1
  ·split at h2
   ·obtain⟨k0,k1⟩:=h1
    obtain⟨j0,j1⟩:=h2
    refine⟨⟨(Leaf.hpick c _ _ k0 j0).1,(Leaf.hpick c _ _ k1 j1).1⟩, ?_⟩
    have e:=(fun(u:Bool)=>rfl:∀u:Bool,u=u)
    simp only[qBB,nth,qAI,(Leaf.hpick c _ _ k0 j0).2,(Leaf.hpick c _ _ k1 j1).2]
    cases c ()<;>rfl
   ·cases h2
  ·cases h1
instance sizSpan:Siz Span:=⟨fun x=>Siz.fit x.frm∧Siz.fit x.to,fun x=>Siz.bulk x.frm+Siz.bulk x.to+1⟩
theorem Z0 (x:Span):(⟨x.frm,x.to⟩:Span)=x:=rfl
structure Set where
 size:Int
 spans:(List Span)
 deriving DecidableEq
instance datSet:Dat Set where
 d0:=⟨0,[]⟩
 sz:=2
 enc x:=[Leaf.av fun _=>(x ()).size,Leaf.av fun _=>(x ()).spans]
 dec l:=match l with|[a0,a1]=>⟨Leaf.val a0,Leaf.val a1⟩|_=>⟨0,[]⟩
 ok l:=match l with|[a0,a1]=>Leaf.ok Int a0∧Leaf.ok (List Span) a1|_=>False
 hlen _:=rfl
 hclosed x:=by simp only[qL,Leaf.hclosed]
 hdec x:=by simp only[Leaf.hval]
 hok x:=⟨Leaf.hok _,Leaf.hok _⟩
 hle l h:=by
  split at h
  ·obtain⟨k0,k1⟩:=h
   exact .mk (Leaf.hle _ k0) (.mk (Leaf.hle _ k1) (trivial))
  ·cases h
 hpick c l m h1 h2:=by
  split at h1
  ·split at h2
   ·obtain⟨k0,k1⟩:=h1
    obtain⟨j0,j1⟩:=h2
    refine⟨⟨(Leaf.hpick c _ _ k0 j0).1,(Leaf.hpick c _ _ k1 j1).1⟩, ?_⟩
    have e:=(fun(u:Bool)=>rfl:∀u:Bool,u=u)
    simp only[qBB,nth,qAI,(Leaf.hpick c _ _ k0 j0).2,(Leaf.hpick c _ _ k1 j1).2]
    cases c ()<;>rfl
   ·cases h2
  ·cases h1
instance sizSet:Siz Set:=⟨fun x=>Siz.fit x.size∧Siz.fit x.spans,fun x=>Siz.bulk x.size+Siz.bulk x.spans+1⟩
theorem Z1 (x:Set):(⟨x.size,x.spans⟩:Set)=x:=rfl
structure Window where
 frm:Int
 long:Int
 owner:Int
 deriving DecidableEq
instance datWindow:Dat Window where
 d0:=⟨0,0,0⟩
 sz:=3
 enc x:=[Leaf.av fun _=>(x ()).frm,Leaf.av fun _=>(x ()).long,Leaf.av fun _=>(x ()).owner]
 dec l:=match l with|[a0,a1,a2]=>⟨Leaf.val a0,Leaf.val a1,Leaf.val a2⟩|_=>⟨0,0,0⟩
 ok l:=match l with|[a0,a1,a2]=>Leaf.ok Int a0∧Leaf.ok Int a1∧Leaf.ok Int a2|_=>False
 hlen _:=rfl
 hclosed x:=by simp only[qL,Leaf.hclosed]
 hdec x:=by simp only[Leaf.hval]
 hok x:=⟨Leaf.hok _,Leaf.hok _,Leaf.hok _⟩
 hle l h:=by
  split at h
  ·obtain⟨k0,k1,k2⟩:=h
   exact .mk (Leaf.hle _ k0) (.mk (Leaf.hle _ k1) (.mk (Leaf.hle _ k2) (trivial)))
  ·cases h
 hpick c l m h1 h2:=by
  split at h1
  ·split at h2
   ·obtain⟨k0,k1,k2⟩:=h1
    obtain⟨j0,j1,j2⟩:=h2
    refine⟨⟨(Leaf.hpick c _ _ k0 j0).1,(Leaf.hpick c _ _ k1 j1).1,(Leaf.hpick c _ _ k2 j2).1⟩, ?_⟩
    have e:=(fun(u:Bool)=>rfl:∀u:Bool,u=u)
    simp only[qBB,nth,qAI,(Leaf.hpick c _ _ k0 j0).2,(Leaf.hpick c _ _ k1 j1).2,(Leaf.hpick c _ _ k2 j2).2]
    cases c ()<;>rfl
   ·cases h2
  ·cases h1
instance sizWindow:Siz Window:=⟨fun x=>Siz.fit x.frm∧Siz.fit x.long∧Siz.fit x.owner,fun x=>Siz.bulk x.frm+Siz.bulk x.long+Siz.bulk x.owner+1⟩
theorem Z2 (x:Window):(⟨x.frm,x.long,x.owner⟩:Window)=x:=rfl
structure Table where
 frame:Int
 windows:(List Window)
 deriving DecidableEq
instance datTable:Dat Table where
 d0:=⟨0,[]⟩
 sz:=2
 enc x:=[Leaf.av fun _=>(x ()).frame,Leaf.av fun _=>(x ()).windows]
 dec l:=match l with|[a0,a1]=>⟨Leaf.val a0,Leaf.val a1⟩|_=>⟨0,[]⟩
 ok l:=match l with|[a0,a1]=>Leaf.ok Int a0∧Leaf.ok (List Window) a1|_=>False
 hlen _:=rfl
 hclosed x:=by simp only[qL,Leaf.hclosed]
 hdec x:=by simp only[Leaf.hval]
 hok x:=⟨Leaf.hok _,Leaf.hok _⟩
 hle l h:=by
  split at h
  ·obtain⟨k0,k1⟩:=h
   exact .mk (Leaf.hle _ k0) (.mk (Leaf.hle _ k1) (trivial))
  ·cases h
 hpick c l m h1 h2:=by
  split at h1
  ·split at h2
   ·obtain⟨k0,k1⟩:=h1
    obtain⟨j0,j1⟩:=h2
    refine⟨⟨(Leaf.hpick c _ _ k0 j0).1,(Leaf.hpick c _ _ k1 j1).1⟩, ?_⟩
    have e:=(fun(u:Bool)=>rfl:∀u:Bool,u=u)
    simp only[qBB,nth,qAI,(Leaf.hpick c _ _ k0 j0).2,(Leaf.hpick c _ _ k1 j1).2]
    cases c ()<;>rfl
   ·cases h2
  ·cases h1
instance sizTable:Siz Table:=⟨fun x=>Siz.fit x.frame∧Siz.fit x.windows,fun x=>Siz.bulk x.frame+Siz.bulk x.windows+1⟩
theorem Z3 (x:Table):(⟨x.frame,x.windows⟩:Table)=x:=rfl
structure Want where
 owner:Int
 frm:Int
 long:Int
 every:Int
 deriving DecidableEq
instance datWant:Dat Want where
 d0:=⟨0,0,0,0⟩
 sz:=4
 enc x:=[Leaf.av fun _=>(x ()).owner,Leaf.av fun _=>(x ()).frm,Leaf.av fun _=>(x ()).long,Leaf.av fun _=>(x ()).every]
 dec l:=match l with|[a0,a1,a2,a3]=>⟨Leaf.val a0,Leaf.val a1,Leaf.val a2,Leaf.val a3⟩|_=>⟨0,0,0,0⟩
 ok l:=match l with|[a0,a1,a2,a3]=>Leaf.ok Int a0∧Leaf.ok Int a1∧Leaf.ok Int a2∧Leaf.ok Int a3|_=>False
 hlen _:=rfl
 hclosed x:=by simp only[qL,Leaf.hclosed]
 hdec x:=by simp only[Leaf.hval]
 hok x:=⟨Leaf.hok _,Leaf.hok _,Leaf.hok _,Leaf.hok _⟩
 hle l h:=by
  split at h
  ·obtain⟨k0,k1,k2,k3⟩:=h
   exact .mk (Leaf.hle _ k0) (.mk (Leaf.hle _ k1) (.mk (Leaf.hle _ k2) (.mk (Leaf.hle _ k3) (trivial))))
  ·cases h
 hpick c l m h1 h2:=by
  split at h1
  ·split at h2
   ·obtain⟨k0,k1,k2,k3⟩:=h1
    obtain⟨j0,j1,j2,j3⟩:=h2
    refine⟨⟨(Leaf.hpick c _ _ k0 j0).1,(Leaf.hpick c _ _ k1 j1).1,(Leaf.hpick c _ _ k2 j2).1,(Leaf.hpick c _ _ k3 j3).1⟩, ?_⟩
    have e:=(fun(u:Bool)=>rfl:∀u:Bool,u=u)
    simp only[qBB,nth,qAI,(Leaf.hpick c _ _ k0 j0).2,(Leaf.hpick c _ _ k1 j1).2,(Leaf.hpick c _ _ k2 j2).2,(Leaf.hpick c _ _ k3 j3).2]
    cases c ()<;>rfl
   ·cases h2
  ·cases h1
instance sizWant:Siz Want:=⟨fun x=>Siz.fit x.owner∧Siz.fit x.frm∧Siz.fit x.long∧Siz.fit x.every,fun x=>Siz.bulk x.owner+Siz.bulk x.frm+Siz.bulk x.long+Siz.bulk x.every+1⟩
theorem Z4 (x:Want):(⟨x.owner,x.frm,x.long,x.every⟩:Want)=x:=rfl
structure Task where
 long:Int
 every:Int
 due:Int
 deriving DecidableEq
instance datTask:Dat Task where
 d0:=⟨0,0,0⟩
 sz:=3
 enc x:=[Leaf.av fun _=>(x ()).long,Leaf.av fun _=>(x ()).every,Leaf.av fun _=>(x ()).due]
 dec l:=match l with|[a0,a1,a2]=>⟨Leaf.val a0,Leaf.val a1,Leaf.val a2⟩|_=>⟨0,0,0⟩
 ok l:=match l with|[a0,a1,a2]=>Leaf.ok Int a0∧Leaf.ok Int a1∧Leaf.ok Int a2|_=>False
 hlen _:=rfl
 hclosed x:=by simp only[qL,Leaf.hclosed]
 hdec x:=by simp only[Leaf.hval]
 hok x:=⟨Leaf.hok _,Leaf.hok _,Leaf.hok _⟩
 hle l h:=by
  split at h
  ·obtain⟨k0,k1,k2⟩:=h
   exact .mk (Leaf.hle _ k0) (.mk (Leaf.hle _ k1) (.mk (Leaf.hle _ k2) (trivial)))
  ·cases h
 hpick c l m h1 h2:=by
  split at h1
  ·split at h2
   ·obtain⟨k0,k1,k2⟩:=h1
    obtain⟨j0,j1,j2⟩:=h2
    refine⟨⟨(Leaf.hpick c _ _ k0 j0).1,(Leaf.hpick c _ _ k1 j1).1,(Leaf.hpick c _ _ k2 j2).1⟩, ?_⟩
    have e:=(fun(u:Bool)=>rfl:∀u:Bool,u=u)
    simp only[qBB,nth,qAI,(Leaf.hpick c _ _ k0 j0).2,(Leaf.hpick c _ _ k1 j1).2,(Leaf.hpick c _ _ k2 j2).2]
    cases c ()<;>rfl
   ·cases h2
  ·cases h1
instance sizTask:Siz Task:=⟨fun x=>Siz.fit x.long∧Siz.fit x.every∧Siz.fit x.due,fun x=>Siz.bulk x.long+Siz.bulk x.every+Siz.bulk x.due+1⟩
theorem Z5 (x:Task):(⟨x.long,x.every,x.due⟩:Task)=x:=rfl
structure Ins where
 code:Int
 a:Int
 b:Int
 deriving DecidableEq
instance datIns:Dat Ins where
 d0:=⟨0,0,0⟩
 sz:=3
 enc x:=[Leaf.av fun _=>(x ()).code,Leaf.av fun _=>(x ()).a,Leaf.av fun _=>(x ()).b]
 dec l:=match l with|[a0,a1,a2]=>⟨Leaf.val a0,Leaf.val a1,Leaf.val a2⟩|_=>⟨0,0,0⟩
 ok l:=match l with|[a0,a1,a2]=>Leaf.ok Int a0∧Leaf.ok Int a1∧Leaf.ok Int a2|_=>False
 hlen _:=rfl
 hclosed x:=by simp only[qL,Leaf.hclosed]
 hdec x:=by simp only[Leaf.hval]
 hok x:=⟨Leaf.hok _,Leaf.hok _,Leaf.hok _⟩
 hle l h:=by
  split at h
  ·obtain⟨k0,k1,k2⟩:=h
   exact .mk (Leaf.hle _ k0) (.mk (Leaf.hle _ k1) (.mk (Leaf.hle _ k2) (trivial)))
  ·cases h
 hpick c l m h1 h2:=by
  split at h1
  ·split at h2
   ·obtain⟨k0,k1,k2⟩:=h1
    obtain⟨j0,j1,j2⟩:=h2
    refine⟨⟨(Leaf.hpick c _ _ k0 j0).1,(Leaf.hpick c _ _ k1 j1).1,(Leaf.hpick c _ _ k2 j2).1⟩, ?_⟩
    have e:=(fun(u:Bool)=>rfl:∀u:Bool,u=u)
    simp only[qBB,nth,qAI,(Leaf.hpick c _ _ k0 j0).2,(Leaf.hpick c _ _ k1 j1).2,(Leaf.hpick c _ _ k2 j2).2]
    cases c ()<;>rfl
   ·cases h2
  ·cases h1
instance sizIns:Siz Ins:=⟨fun x=>Siz.fit x.code∧Siz.fit x.a∧Siz.fit x.b,fun x=>Siz.bulk x.code+Siz.bulk x.a+Siz.bulk x.b+1⟩
theorem Z6 (x:Ins):(⟨x.code,x.a,x.b⟩:Ins)=x:=rfl
structure Vm where
 at_:Int
 regs:(List Int)
 halts:Bool
 fault:Bool
 deriving DecidableEq
instance datVm:Dat Vm where
 d0:=⟨0,[],false,false⟩
 sz:=4
 enc x:=[Leaf.av fun _=>(x ()).at_,Leaf.av fun _=>(x ()).regs,Leaf.av fun _=>(x ()).halts,Leaf.av fun _=>(x ()).fault]
 dec l:=match l with|[a0,a1,a2,a3]=>⟨Leaf.val a0,Leaf.val a1,Leaf.val a2,Leaf.val a3⟩|_=>⟨0,[],false,false⟩
 ok l:=match l with|[a0,a1,a2,a3]=>Leaf.ok Int a0∧Leaf.ok (List Int) a1∧Leaf.ok Bool a2∧Leaf.ok Bool a3|_=>False
 hlen _:=rfl
 hclosed x:=by simp only[qL,Leaf.hclosed]
 hdec x:=by simp only[Leaf.hval]
 hok x:=⟨Leaf.hok _,Leaf.hok _,Leaf.hok _,Leaf.hok _⟩
 hle l h:=by
  split at h
  ·obtain⟨k0,k1,k2,k3⟩:=h
   exact .mk (Leaf.hle _ k0) (.mk (Leaf.hle _ k1) (.mk (Leaf.hle _ k2) (.mk (Leaf.hle _ k3) (trivial))))
  ·cases h
 hpick c l m h1 h2:=by
  split at h1
  ·split at h2
   ·obtain⟨k0,k1,k2,k3⟩:=h1
    obtain⟨j0,j1,j2,j3⟩:=h2
    refine⟨⟨(Leaf.hpick c _ _ k0 j0).1,(Leaf.hpick c _ _ k1 j1).1,(Leaf.hpick c _ _ k2 j2).1,(Leaf.hpick c _ _ k3 j3).1⟩, ?_⟩
    have e:=(fun(u:Bool)=>rfl:∀u:Bool,u=u)
    simp only[qBB,nth,qAI,(Leaf.hpick c _ _ k0 j0).2,(Leaf.hpick c _ _ k1 j1).2,(Leaf.hpick c _ _ k2 j2).2,(Leaf.hpick c _ _ k3 j3).2]
    cases c ()<;>rfl
   ·cases h2
  ·cases h1
instance sizVm:Siz Vm:=⟨fun x=>Siz.fit x.at_∧Siz.fit x.regs∧Siz.fit x.halts∧Siz.fit x.fault,fun x=>Siz.bulk x.at_+Siz.bulk x.regs+Siz.bulk x.halts+Siz.bulk x.fault+1⟩
theorem Z7 (x:Vm):(⟨x.at_,x.regs,x.halts,x.fault⟩:Vm)=x:=rfl
structure Emit where
 port:Int
 n:Int
 deriving DecidableEq
instance datEmit:Dat Emit where
 d0:=⟨0,0⟩
 sz:=2
 enc x:=[Leaf.av fun _=>(x ()).port,Leaf.av fun _=>(x ()).n]
 dec l:=match l with|[a0,a1]=>⟨Leaf.val a0,Leaf.val a1⟩|_=>⟨0,0⟩
 ok l:=match l with|[a0,a1]=>Leaf.ok Int a0∧Leaf.ok Int a1|_=>False
 hlen _:=rfl
 hclosed x:=by simp only[qL,Leaf.hclosed]
 hdec x:=by simp only[Leaf.hval]
 hok x:=⟨Leaf.hok _,Leaf.hok _⟩
 hle l h:=by
  split at h
  ·obtain⟨k0,k1⟩:=h
   exact .mk (Leaf.hle _ k0) (.mk (Leaf.hle _ k1) (trivial))
  ·cases h
 hpick c l m h1 h2:=by
  split at h1
  ·split at h2
   ·obtain⟨k0,k1⟩:=h1
    obtain⟨j0,j1⟩:=h2
    refine⟨⟨(Leaf.hpick c _ _ k0 j0).1,(Leaf.hpick c _ _ k1 j1).1⟩, ?_⟩
    have e:=(fun(u:Bool)=>rfl:∀u:Bool,u=u)
    simp only[qBB,nth,qAI,(Leaf.hpick c _ _ k0 j0).2,(Leaf.hpick c _ _ k1 j1).2]
    cases c ()<;>rfl
   ·cases h2
  ·cases h1
instance sizEmit:Siz Emit:=⟨fun x=>Siz.fit x.port∧Siz.fit x.n,fun x=>Siz.bulk x.port+Siz.bulk x.n+1⟩
theorem Z8 (x:Emit):(⟨x.port,x.n⟩:Emit)=x:=rfl
structure Part where
 code:(List Ins)
 vm:Vm
 box:(List Int)
 deriving DecidableEq
instance datPart:Dat Part where
 d0:=⟨[],⟨0,[],false,false⟩,[]⟩
 sz:=6
 enc x:=[Leaf.av fun _=>(x ()).code,Leaf.av fun _=>(x ()).vm.at_,Leaf.av fun _=>(x ()).vm.regs,Leaf.av fun _=>(x ()).vm.halts,Leaf.av fun _=>(x ()).vm.fault,Leaf.av fun _=>(x ()).box]
 dec l:=match l with|[a0,a1,a2,a3,a4,a5]=>⟨Leaf.val a0,⟨Leaf.val a1,Leaf.val a2,Leaf.val a3,Leaf.val a4⟩,Leaf.val a5⟩|_=>⟨[],⟨0,[],false,false⟩,[]⟩
 ok l:=match l with|[a0,a1,a2,a3,a4,a5]=>Leaf.ok (List Ins) a0∧Leaf.ok Int a1∧Leaf.ok (List Int) a2∧Leaf.ok Bool a3∧Leaf.ok Bool a4∧Leaf.ok (List Int) a5|_=>False
 hlen _:=rfl
 hclosed x:=by simp only[qL,Leaf.hclosed]
 hdec x:=by simp only[Leaf.hval]
 hok x:=⟨Leaf.hok _,Leaf.hok _,Leaf.hok _,Leaf.hok _,Leaf.hok _,Leaf.hok _⟩
 hle l h:=by
  split at h
  ·obtain⟨k0,k1,k2,k3,k4,k5⟩:=h
   exact .mk (Leaf.hle _ k0) (.mk (Leaf.hle _ k1) (.mk (Leaf.hle _ k2) (.mk (Leaf.hle _ k3) (.mk (Leaf.hle _ k4) (.mk (Leaf.hle _ k5) (trivial))))))
  ·cases h
 hpick c l m h1 h2:=by
  split at h1
  ·split at h2
   ·obtain⟨k0,k1,k2,k3,k4,k5⟩:=h1
    obtain⟨j0,j1,j2,j3,j4,j5⟩:=h2
    refine⟨⟨(Leaf.hpick c _ _ k0 j0).1,(Leaf.hpick c _ _ k1 j1).1,(Leaf.hpick c _ _ k2 j2).1,(Leaf.hpick c _ _ k3 j3).1,(Leaf.hpick c _ _ k4 j4).1,(Leaf.hpick c _ _ k5 j5).1⟩, ?_⟩
    have e:=(fun(u:Bool)=>rfl:∀u:Bool,u=u)
    simp only[qBB,nth,qAI,(Leaf.hpick c _ _ k0 j0).2,(Leaf.hpick c _ _ k1 j1).2,(Leaf.hpick c _ _ k2 j2).2,(Leaf.hpick c _ _ k3 j3).2,(Leaf.hpick c _ _ k4 j4).2,(Leaf.hpick c _ _ k5 j5).2]
    cases c ()<;>rfl
   ·cases h2
  ·cases h1
instance sizPart:Siz Part:=⟨fun x=>Siz.fit x.code∧Siz.fit x.vm∧Siz.fit x.box,fun x=>Siz.bulk x.code+Siz.bulk x.vm+Siz.bulk x.box+1⟩
theorem Z9 (x:Part):(⟨x.code,x.vm,x.box⟩:Part)=x:=rfl
structure Wire where
 frm:Int
 port:Int
 to:Int
 deriving DecidableEq
instance datWire:Dat Wire where
 d0:=⟨0,0,0⟩
 sz:=3
 enc x:=[Leaf.av fun _=>(x ()).frm,Leaf.av fun _=>(x ()).port,Leaf.av fun _=>(x ()).to]
 dec l:=match l with|[a0,a1,a2]=>⟨Leaf.val a0,Leaf.val a1,Leaf.val a2⟩|_=>⟨0,0,0⟩
 ok l:=match l with|[a0,a1,a2]=>Leaf.ok Int a0∧Leaf.ok Int a1∧Leaf.ok Int a2|_=>False
 hlen _:=rfl
 hclosed x:=by simp only[qL,Leaf.hclosed]
 hdec x:=by simp only[Leaf.hval]
 hok x:=⟨Leaf.hok _,Leaf.hok _,Leaf.hok _⟩
 hle l h:=by
  split at h
  ·obtain⟨k0,k1,k2⟩:=h
   exact .mk (Leaf.hle _ k0) (.mk (Leaf.hle _ k1) (.mk (Leaf.hle _ k2) (trivial)))
  ·cases h
 hpick c l m h1 h2:=by
  split at h1
  ·split at h2
   ·obtain⟨k0,k1,k2⟩:=h1
    obtain⟨j0,j1,j2⟩:=h2
    refine⟨⟨(Leaf.hpick c _ _ k0 j0).1,(Leaf.hpick c _ _ k1 j1).1,(Leaf.hpick c _ _ k2 j2).1⟩, ?_⟩
    have e:=(fun(u:Bool)=>rfl:∀u:Bool,u=u)
    simp only[qBB,nth,qAI,(Leaf.hpick c _ _ k0 j0).2,(Leaf.hpick c _ _ k1 j1).2,(Leaf.hpick c _ _ k2 j2).2]
    cases c ()<;>rfl
   ·cases h2
  ·cases h1
instance sizWire:Siz Wire:=⟨fun x=>Siz.fit x.frm∧Siz.fit x.port∧Siz.fit x.to,fun x=>Siz.bulk x.frm+Siz.bulk x.port+Siz.bulk x.to+1⟩
theorem Z10 (x:Wire):(⟨x.frm,x.port,x.to⟩:Wire)=x:=rfl
structure Module where
 table:Table
 parts:(List Part)
 wires:(List Wire)
 now:Int
 lost:Int
 deriving DecidableEq
instance datModule:Dat Module where
 d0:=⟨⟨0,[]⟩,[],[],0,0⟩
 sz:=6
 enc x:=[Leaf.av fun _=>(x ()).table.frame,Leaf.av fun _=>(x ()).table.windows,Leaf.av fun _=>(x ()).parts,Leaf.av fun _=>(x ()).wires,Leaf.av fun _=>(x ()).now,Leaf.av fun _=>(x ()).lost]
 dec l:=match l with|[a0,a1,a2,a3,a4,a5]=>⟨⟨Leaf.val a0,Leaf.val a1⟩,Leaf.val a2,Leaf.val a3,Leaf.val a4,Leaf.val a5⟩|_=>⟨⟨0,[]⟩,[],[],0,0⟩
 ok l:=match l with|[a0,a1,a2,a3,a4,a5]=>Leaf.ok Int a0∧Leaf.ok (List Window) a1∧Leaf.ok (List Part) a2∧Leaf.ok (List Wire) a3∧Leaf.ok Int a4∧Leaf.ok Int a5|_=>False
 hlen _:=rfl
 hclosed x:=by simp only[qL,Leaf.hclosed]
 hdec x:=by simp only[Leaf.hval]
 hok x:=⟨Leaf.hok _,Leaf.hok _,Leaf.hok _,Leaf.hok _,Leaf.hok _,Leaf.hok _⟩
 hle l h:=by
  split at h
  ·obtain⟨k0,k1,k2,k3,k4,k5⟩:=h
   exact .mk (Leaf.hle _ k0) (.mk (Leaf.hle _ k1) (.mk (Leaf.hle _ k2) (.mk (Leaf.hle _ k3) (.mk (Leaf.hle _ k4) (.mk (Leaf.hle _ k5) (trivial))))))
  ·cases h
 hpick c l m h1 h2:=by
  split at h1
  ·split at h2
   ·obtain⟨k0,k1,k2,k3,k4,k5⟩:=h1
    obtain⟨j0,j1,j2,j3,j4,j5⟩:=h2
    refine⟨⟨(Leaf.hpick c _ _ k0 j0).1,(Leaf.hpick c _ _ k1 j1).1,(Leaf.hpick c _ _ k2 j2).1,(Leaf.hpick c _ _ k3 j3).1,(Leaf.hpick c _ _ k4 j4).1,(Leaf.hpick c _ _ k5 j5).1⟩, ?_⟩
    have e:=(fun(u:Bool)=>rfl:∀u:Bool,u=u)
    simp only[qBB,nth,qAI,(Leaf.hpick c _ _ k0 j0).2,(Leaf.hpick c _ _ k1 j1).2,(Leaf.hpick c _ _ k2 j2).2,(Leaf.hpick c _ _ k3 j3).2,(Leaf.hpick c _ _ k4 j4).2,(Leaf.hpick c _ _ k5 j5).2]
    cases c ()<;>rfl
   ·cases h2
  ·cases h1
instance sizModule:Siz Module:=⟨fun x=>Siz.fit x.table∧Siz.fit x.parts∧Siz.fit x.wires∧Siz.fit x.now∧Siz.fit x.lost,fun x=>Siz.bulk x.table+Siz.bulk x.parts+Siz.bulk x.wires+Siz.bulk x.now+Siz.bulk x.lost+1⟩
theorem Z11 (x:Module):(⟨x.table,x.parts,x.wires,x.now,x.lost⟩:Module)=x:=rfl
structure PlanJob where
 owner:Int
 task:Task
 deriving DecidableEq
instance datPlanJob:Dat PlanJob where
 d0:=⟨0,⟨0,0,0⟩⟩
 sz:=4
 enc x:=[Leaf.av fun _=>(x ()).owner,Leaf.av fun _=>(x ()).task.long,Leaf.av fun _=>(x ()).task.every,Leaf.av fun _=>(x ()).task.due]
 dec l:=match l with|[a0,a1,a2,a3]=>⟨Leaf.val a0,⟨Leaf.val a1,Leaf.val a2,Leaf.val a3⟩⟩|_=>⟨0,⟨0,0,0⟩⟩
 ok l:=match l with|[a0,a1,a2,a3]=>Leaf.ok Int a0∧Leaf.ok Int a1∧Leaf.ok Int a2∧Leaf.ok Int a3|_=>False
 hlen _:=rfl
 hclosed x:=by simp only[qL,Leaf.hclosed]
 hdec x:=by simp only[Leaf.hval]
 hok x:=⟨Leaf.hok _,Leaf.hok _,Leaf.hok _,Leaf.hok _⟩
 hle l h:=by
  split at h
  ·obtain⟨k0,k1,k2,k3⟩:=h
   exact .mk (Leaf.hle _ k0) (.mk (Leaf.hle _ k1) (.mk (Leaf.hle _ k2) (.mk (Leaf.hle _ k3) (trivial))))
  ·cases h
 hpick c l m h1 h2:=by
  split at h1
  ·split at h2
   ·obtain⟨k0,k1,k2,k3⟩:=h1
    obtain⟨j0,j1,j2,j3⟩:=h2
    refine⟨⟨(Leaf.hpick c _ _ k0 j0).1,(Leaf.hpick c _ _ k1 j1).1,(Leaf.hpick c _ _ k2 j2).1,(Leaf.hpick c _ _ k3 j3).1⟩, ?_⟩
    have e:=(fun(u:Bool)=>rfl:∀u:Bool,u=u)
    simp only[qBB,nth,qAI,(Leaf.hpick c _ _ k0 j0).2,(Leaf.hpick c _ _ k1 j1).2,(Leaf.hpick c _ _ k2 j2).2,(Leaf.hpick c _ _ k3 j3).2]
    cases c ()<;>rfl
   ·cases h2
  ·cases h1
instance sizPlanJob:Siz PlanJob:=⟨fun x=>Siz.fit x.owner∧Siz.fit x.task,fun x=>Siz.bulk x.owner+Siz.bulk x.task+1⟩
theorem Z12 (x:PlanJob):(⟨x.owner,x.task⟩:PlanJob)=x:=rfl
structure Plan where
 frame:Int
 wants:(List Want)
 jobs:(List PlanJob)
 deriving DecidableEq
instance datPlan:Dat Plan where
 d0:=⟨0,[],[]⟩
 sz:=3
 enc x:=[Leaf.av fun _=>(x ()).frame,Leaf.av fun _=>(x ()).wants,Leaf.av fun _=>(x ()).jobs]
 dec l:=match l with|[a0,a1,a2]=>⟨Leaf.val a0,Leaf.val a1,Leaf.val a2⟩|_=>⟨0,[],[]⟩
 ok l:=match l with|[a0,a1,a2]=>Leaf.ok Int a0∧Leaf.ok (List Want) a1∧Leaf.ok (List PlanJob) a2|_=>False
 hlen _:=rfl
 hclosed x:=by simp only[qL,Leaf.hclosed]
 hdec x:=by simp only[Leaf.hval]
 hok x:=⟨Leaf.hok _,Leaf.hok _,Leaf.hok _⟩
 hle l h:=by
  split at h
  ·obtain⟨k0,k1,k2⟩:=h
   exact .mk (Leaf.hle _ k0) (.mk (Leaf.hle _ k1) (.mk (Leaf.hle _ k2) (trivial)))
  ·cases h
 hpick c l m h1 h2:=by
  split at h1
  ·split at h2
   ·obtain⟨k0,k1,k2⟩:=h1
    obtain⟨j0,j1,j2⟩:=h2
    refine⟨⟨(Leaf.hpick c _ _ k0 j0).1,(Leaf.hpick c _ _ k1 j1).1,(Leaf.hpick c _ _ k2 j2).1⟩, ?_⟩
    have e:=(fun(u:Bool)=>rfl:∀u:Bool,u=u)
    simp only[qBB,nth,qAI,(Leaf.hpick c _ _ k0 j0).2,(Leaf.hpick c _ _ k1 j1).2,(Leaf.hpick c _ _ k2 j2).2]
    cases c ()<;>rfl
   ·cases h2
  ·cases h1
instance sizPlan:Siz Plan:=⟨fun x=>Siz.fit x.frame∧Siz.fit x.wants∧Siz.fit x.jobs,fun x=>Siz.bulk x.frame+Siz.bulk x.wants+Siz.bulk x.jobs+1⟩
theorem Z13 (x:Plan):(⟨x.frame,x.wants,x.jobs⟩:Plan)=x:=rfl
structure shape where
 word:ByteArray
 a:Bool
 b:U8
 deriving DecidableEq
instance datshape:Dat shape where
 d0:=⟨.empty,false,⟨0⟩⟩
 sz:=3
 enc x:=[Leaf.av fun _=>(x ()).word,Leaf.av fun _=>(x ()).a,Leaf.av fun _=>(x ()).b]
 dec l:=match l with|[a0,a1,a2]=>⟨Leaf.val a0,Leaf.val a1,Leaf.val a2⟩|_=>⟨.empty,false,⟨0⟩⟩
 ok l:=match l with|[a0,a1,a2]=>Leaf.ok ByteArray a0∧Leaf.ok Bool a1∧Leaf.ok U8 a2|_=>False
 hlen _:=rfl
 hclosed x:=by simp only[qL,Leaf.hclosed]
 hdec x:=by simp only[Leaf.hval]
 hok x:=⟨Leaf.hok _,Leaf.hok _,Leaf.hok _⟩
 hle l h:=by
  split at h
  ·obtain⟨k0,k1,k2⟩:=h
   exact .mk (Leaf.hle _ k0) (.mk (Leaf.hle _ k1) (.mk (Leaf.hle _ k2) (trivial)))
  ·cases h
 hpick c l m h1 h2:=by
  split at h1
  ·split at h2
   ·obtain⟨k0,k1,k2⟩:=h1
    obtain⟨j0,j1,j2⟩:=h2
    refine⟨⟨(Leaf.hpick c _ _ k0 j0).1,(Leaf.hpick c _ _ k1 j1).1,(Leaf.hpick c _ _ k2 j2).1⟩, ?_⟩
    have e:=(fun(u:Bool)=>rfl:∀u:Bool,u=u)
    simp only[qBB,nth,qAI,(Leaf.hpick c _ _ k0 j0).2,(Leaf.hpick c _ _ k1 j1).2,(Leaf.hpick c _ _ k2 j2).2]
    cases c ()<;>rfl
   ·cases h2
  ·cases h1
instance sizshape:Siz shape:=⟨fun x=>Siz.fit x.word∧Siz.fit x.a∧Siz.fit x.b,fun x=>Siz.bulk x.word+Siz.bulk x.a+Siz.bulk x.b+1⟩
theorem Z14 (x:shape):(⟨x.word,x.a,x.b⟩:shape)=x:=rfl
noncomputable def tys:TypeId→Ty:=fun t=>match t with
 |2=> .int .i64
 |3=> .int .i64
 |4=> .bool
 |5=> .int .u8
 |9=> .str
 |12=> .int .u64
 |13=> .struct none [(0,9,1),(1,12,1)] 2 [.s fun _=> .empty,.i .u64 fun _=>0]
 |21=> .int .i32
 |22=> .slice 106 3 24 [.i .i64 fun _=>0,.i .i64 fun _=>0,.i .i64 fun _=>0]
 |23=> .struct none [(0,3,1),(1,22,1)] 2 [.i .i64 fun _=>0,.nil]
 |24=> .struct none [(0,3,1),(1,22,1)] 2 [.i .i64 fun _=>0,.nil]
 |25=> .slice 50 6 88 [.nil,.i .i64 fun _=>0,.nil,.bc false,.bc false,.nil]
 |26=> .slice 37 3 24 [.i .i64 fun _=>0,.i .i64 fun _=>0,.i .i64 fun _=>0]
 |27=> .struct none [(0,24,2),(2,25,1),(3,26,1),(4,3,1),(5,3,1)] 6 [.i .i64 fun _=>0,.nil,.nil,.nil,.i .i64 fun _=>0,.i .i64 fun _=>0]
 |28=> .struct none [(0,24,2),(2,25,1),(3,26,1),(4,3,1),(5,3,1)] 6 [.i .i64 fun _=>0,.nil,.nil,.nil,.i .i64 fun _=>0,.i .i64 fun _=>0]
 |29=> .slice 4 1 1 [.bc false]
 |30=> .int .i64
 |35=> .one
 |36=> .struct (some [.i,.i,.i]) [(0,3,1),(1,3,1),(2,3,1)] 3 [.i .i64 fun _=>0,.i .i64 fun _=>0,.i .i64 fun _=>0]
 |37=> .struct (some [.i,.i,.i]) [(0,3,1),(1,3,1),(2,3,1)] 3 [.i .i64 fun _=>0,.i .i64 fun _=>0,.i .i64 fun _=>0]
 |38=> .slice 108 2 16 [.i .i64 fun _=>0,.i .i64 fun _=>0]
 |39=> .struct none [(0,3,1),(1,38,1)] 2 [.i .i64 fun _=>0,.nil]
 |40=> .struct none [(0,3,1),(1,38,1)] 2 [.i .i64 fun _=>0,.nil]
 |45=> .slice 131 3 24 [.i .i64 fun _=>0,.i .i64 fun _=>0,.i .i64 fun _=>0]
 |46=> .slice 3 1 8 [.i .i64 fun _=>0]
 |47=> .struct none [(0,3,1),(1,46,1),(2,4,1),(3,4,1)] 4 [.i .i64 fun _=>0,.nil,.bc false,.bc false]
 |48=> .struct none [(0,3,1),(1,46,1),(2,4,1),(3,4,1)] 4 [.i .i64 fun _=>0,.nil,.bc false,.bc false]
 |49=> .struct none [(0,45,1),(1,48,4),(5,46,1)] 6 [.nil,.i .i64 fun _=>0,.nil,.bc false,.bc false,.nil]
 |50=> .struct none [(0,45,1),(1,48,4),(5,46,1)] 6 [.nil,.i .i64 fun _=>0,.nil,.bc false,.bc false,.nil]
 |51=> .slice 78 2 16 [.i .i64 fun _=>0,.i .i64 fun _=>0]
 |54=> .one
 |56=> .one
 |57=> .slice 141 3 24 [.i .i64 fun _=>0,.i .i64 fun _=>0,.i .i64 fun _=>0]
 |60=> .struct (some [.i,.i]) [(0,3,1),(1,3,1)] 2 [.i .i64 fun _=>0,.i .i64 fun _=>0]
 |61=> .struct (some [.i,.i]) [(0,3,1),(1,3,1)] 2 [.i .i64 fun _=>0,.i .i64 fun _=>0]
 |62=> .slice 138 8 88 [.i .i64 fun _=>0,.i .i64 fun _=>0,.nil,.bc false,.bc false,.i .i64 fun _=>0,.nil,.i .i64 fun _=>0]
 |63=> .slice 9 1 16 [.s fun _=> .empty]
 |64=> .struct none [(0,61,2),(2,63,1)] 3 [.i .i64 fun _=>0,.i .i64 fun _=>0,.nil]
 |65=> .struct none [(0,61,2),(2,63,1)] 3 [.i .i64 fun _=>0,.i .i64 fun _=>0,.nil]
 |66=> .struct none [(0,46,1),(1,61,2),(3,62,1),(4,62,1),(5,65,3)] 8 [.nil,.i .i64 fun _=>0,.i .i64 fun _=>0,.nil,.nil,.i .i64 fun _=>0,.i .i64 fun _=>0,.nil]
 |67=> .struct none [(0,46,1),(1,61,2),(3,62,1),(4,62,1),(5,65,3)] 8 [.nil,.i .i64 fun _=>0,.i .i64 fun _=>0,.nil,.nil,.i .i64 fun _=>0,.i .i64 fun _=>0,.nil]
 |68=> .slice 30 1 8 [.i .i64 fun _=>0]
 |72=> .struct (some [.i,.i,.i,.s]) [(0,3,1),(1,3,1),(2,3,1),(3,9,1)] 4 [.i .i64 fun _=>0,.i .i64 fun _=>0,.i .i64 fun _=>0,.s fun _=> .empty]
 |73=> .struct (some [.i,.i,.i,.s]) [(0,3,1),(1,3,1),(2,3,1),(3,9,1)] 4 [.i .i64 fun _=>0,.i .i64 fun _=>0,.i .i64 fun _=>0,.s fun _=> .empty]
 |74=> .struct (some [.b,.i,.i,.i,.s]) [(0,4,1),(1,73,4)] 5 [.bc false,.i .i64 fun _=>0,.i .i64 fun _=>0,.i .i64 fun _=>0,.s fun _=> .empty]
 |75=> .struct (some [.b,.i,.i,.i,.s]) [(0,4,1),(1,73,4)] 5 [.bc false,.i .i64 fun _=>0,.i .i64 fun _=>0,.i .i64 fun _=>0,.s fun _=> .empty]
 |76=> .slice 75 5 48 [.bc false,.i .i64 fun _=>0,.i .i64 fun _=>0,.i .i64 fun _=>0,.s fun _=> .empty]
 |77=> .struct (some [.i,.i]) [(0,3,1),(1,3,1)] 2 [.i .i64 fun _=>0,.i .i64 fun _=>0]
 |78=> .struct (some [.i,.i]) [(0,3,1),(1,3,1)] 2 [.i .i64 fun _=>0,.i .i64 fun _=>0]
 |80=> .slice 145 2 16 [.bc false,.i .i64 fun _=>0]
 |86=> .one
 |89=> .one
 |92=> .struct (some [.i,.i,.i,.i]) [(0,3,1),(1,3,1),(2,3,1),(3,3,1)] 4 [.i .i64 fun _=>0,.i .i64 fun _=>0,.i .i64 fun _=>0,.i .i64 fun _=>0]
 |93=> .struct (some [.i,.i,.i,.i]) [(0,3,1),(1,3,1),(2,3,1),(3,3,1)] 4 [.i .i64 fun _=>0,.i .i64 fun _=>0,.i .i64 fun _=>0,.i .i64 fun _=>0]
 |94=> .slice 93 4 32 [.i .i64 fun _=>0,.i .i64 fun _=>0,.i .i64 fun _=>0,.i .i64 fun _=>0]
 |95=> .struct (some [.i,.i,.i]) [(0,3,1),(1,3,1),(2,3,1)] 3 [.i .i64 fun _=>0,.i .i64 fun _=>0,.i .i64 fun _=>0]
 |96=> .struct (some [.i,.i,.i]) [(0,3,1),(1,3,1),(2,3,1)] 3 [.i .i64 fun _=>0,.i .i64 fun _=>0,.i .i64 fun _=>0]
 |97=> .struct (some [.i,.i,.i,.i]) [(0,3,1),(1,96,3)] 4 [.i .i64 fun _=>0,.i .i64 fun _=>0,.i .i64 fun _=>0,.i .i64 fun _=>0]
 |98=> .struct (some [.i,.i,.i,.i]) [(0,3,1),(1,96,3)] 4 [.i .i64 fun _=>0,.i .i64 fun _=>0,.i .i64 fun _=>0,.i .i64 fun _=>0]
 |99=> .slice 98 4 32 [.i .i64 fun _=>0,.i .i64 fun _=>0,.i .i64 fun _=>0,.i .i64 fun _=>0]
 |100=> .struct none [(0,3,1),(1,94,1),(2,99,1)] 3 [.i .i64 fun _=>0,.nil,.nil]
 |101=> .struct none [(0,3,1),(1,94,1),(2,99,1)] 3 [.i .i64 fun _=>0,.nil,.nil]
 |104=> .one
 |105=> .struct (some [.i,.i,.i]) [(0,3,1),(1,3,1),(2,3,1)] 3 [.i .i64 fun _=>0,.i .i64 fun _=>0,.i .i64 fun _=>0]
 |106=> .struct (some [.i,.i,.i]) [(0,3,1),(1,3,1),(2,3,1)] 3 [.i .i64 fun _=>0,.i .i64 fun _=>0,.i .i64 fun _=>0]
 |107=> .struct (some [.i,.i]) [(0,3,1),(1,3,1)] 2 [.i .i64 fun _=>0,.i .i64 fun _=>0]
 |108=> .struct (some [.i,.i]) [(0,3,1),(1,3,1)] 2 [.i .i64 fun _=>0,.i .i64 fun _=>0]
 |111=> .one
 |115=> .one
 |116=> .struct none [(0,48,4),(4,45,1),(5,46,1),(6,51,1)] 7 [.i .i64 fun _=>0,.nil,.bc false,.bc false,.nil,.nil,.nil]
 |117=> .struct none [(0,48,4),(4,45,1),(5,46,1),(6,51,1)] 7 [.i .i64 fun _=>0,.nil,.bc false,.bc false,.nil,.nil,.nil]
 |119=> .slice 128 3 24 [.s fun _=> .empty,.bc false,.i .u8 fun _=>0]
 |125=> .one
 |127=> .struct none [(0,9,1),(1,4,1),(2,5,1)] 3 [.s fun _=> .empty,.bc false,.i .u8 fun _=>0]
 |128=> .struct none [(0,9,1),(1,4,1),(2,5,1)] 3 [.s fun _=> .empty,.bc false,.i .u8 fun _=>0]
 |129=> .one
 |130=> .struct (some [.i,.i,.i]) [(0,3,1),(1,3,1),(2,3,1)] 3 [.i .i64 fun _=>0,.i .i64 fun _=>0,.i .i64 fun _=>0]
 |131=> .struct (some [.i,.i,.i]) [(0,3,1),(1,3,1),(2,3,1)] 3 [.i .i64 fun _=>0,.i .i64 fun _=>0,.i .i64 fun _=>0]
 |135=> .struct none [(0,67,8),(8,45,1)] 9 [.nil,.i .i64 fun _=>0,.i .i64 fun _=>0,.nil,.nil,.i .i64 fun _=>0,.i .i64 fun _=>0,.nil,.nil]
 |136=> .struct none [(0,67,8),(8,45,1)] 9 [.nil,.i .i64 fun _=>0,.i .i64 fun _=>0,.nil,.nil,.i .i64 fun _=>0,.i .i64 fun _=>0,.nil,.nil]
 |137=> .struct none [(0,3,1),(1,48,4),(5,3,1),(6,51,1),(7,3,1)] 8 [.i .i64 fun _=>0,.i .i64 fun _=>0,.nil,.bc false,.bc false,.i .i64 fun _=>0,.nil,.i .i64 fun _=>0]
 |138=> .struct none [(0,3,1),(1,48,4),(5,3,1),(6,51,1),(7,3,1)] 8 [.i .i64 fun _=>0,.i .i64 fun _=>0,.nil,.bc false,.bc false,.i .i64 fun _=>0,.nil,.i .i64 fun _=>0]
 |140=> .struct (some [.i,.i,.i]) [(0,3,1),(1,3,1),(2,3,1)] 3 [.i .i64 fun _=>0,.i .i64 fun _=>0,.i .i64 fun _=>0]
 |141=> .struct (some [.i,.i,.i]) [(0,3,1),(1,3,1),(2,3,1)] 3 [.i .i64 fun _=>0,.i .i64 fun _=>0,.i .i64 fun _=>0]
 |144=> .struct (some [.b,.i]) [(0,4,1),(1,30,1)] 2 [.bc false,.i .i64 fun _=>0]
 |145=> .struct (some [.b,.i]) [(0,4,1),(1,30,1)] 2 [.bc false,.i .i64 fun _=>0]
 |154=> .one
 |160=> .slice 96 3 24 [.i .i64 fun _=>0,.i .i64 fun _=>0,.i .i64 fun _=>0]
 |165=> .one
 |166=> .one
 |167=> .one
 |169=> .one
 |173=> .one
 |176=> .int .u64
 |179=> .one
 |180=> .one
 |193=> .one
 |195=> .one
 |197=> .one
 |204=> .one
 |206=> .one
 |211=> .int .u32
 |214=> .int .u64
 |228=> .int .i64
 |235=> .one
 |236=> .one
 |239=> .one
 |240=> .one
 |242=> .one
 |245=> .slice 5 1 1 [.i .u8 fun _=>0]
 |254=> .int .u64
 |258=> .one
 |264=> .one
 |267=> .one
 |275=> .one
 |278=> .one
 |281=> .struct none [(0,5,1),(1,5,1)] 2 [.i .u8 fun _=>0,.i .u8 fun _=>0]
 |282=> .struct none [(0,5,1),(1,5,1)] 2 [.i .u8 fun _=>0,.i .u8 fun _=>0]
 |293=> .one
 |294=> .struct (some [.s]) [(0,9,1)] 1 [.s fun _=> .empty]
 |295=> .struct (some [.s]) [(0,9,1)] 1 [.s fun _=> .empty]
 |305=> .one
 |308=> .one
 |_=> .other
noncomputable def ars:TypeId→Option Arr:=fun t=>match t with
 |_=>none
def fms:TypeId→Bool:=fun t=>match t with|182=>true|_=>false
set_option maxRecDepth 100000
theorem qX4:∀t,fms t=true→qXz Tryz.prog t:=fun t h=>by
 unfold fms at h
 split at h
 ·exact⟨_,_,rfl,rfl,fun w=>by kernel_rfl⟩
 ·cases h
def qXL:TypeId→Bool:=fun t=>match t with|208=>true|_=>false
set_option maxRecDepth 100000
theorem qUU:∀t,qXL t=true→∃ms,Tryz.prog.underlying t=some (.interface ms):=fun t h=>by
 unfold qXL at h
 split at h
 ·exact⟨_,rfl⟩
 ·cases h
def mts:TypeId→String→Option FuncId:=fun t n=>match t with
 |9=>none
 |261=>none
 |264=>none
 |293=>none
 |_=>none
def qXM:TypeId→Bool:=fun t=>match t with
 |9=>true
 |261=>true
 |264=>true
 |293=>true
 |_=>false
noncomputable def E:Env:={ty:=tys,ar:=ars,fr:=frs,bd:=bds,fm:=fms,ern:=qXL,mt:=mts,nif:=qXM}
noncomputable def Ew (w:List Nat):Env:={ty:=tys,wr:=w,ar:=ars,fr:=frs,bd:=bds,fm:=fms,ern:=qXL,mt:=mts,nif:=qXM}
set_option maxRecDepth 100000
theorem qUV (w:List Nat):EnvOk Tryz.prog (Ew w):=⟨fun t=>by
 show qE4 Tryz.prog t (tys t)
 unfold tys
 split
 ·exact⟨rfl,_,rfl,rfl,_,rfl,rfl,rfl⟩
 ·exact⟨rfl,_,rfl,rfl,_,rfl,rfl,rfl⟩
 ·exact⟨rfl,_,rfl,rfl,_,rfl,rfl,rfl⟩
 ·exact⟨rfl,_,rfl,rfl,_,rfl,rfl,rfl⟩
 ·exact⟨rfl,_,rfl,rfl,_,rfl,rfl,rfl⟩
 ·exact⟨rfl,_,rfl,rfl,_,rfl,rfl,rfl⟩
 ·exact⟨⟨_,rfl,by kernel_rfl,fun ks h=>by cases h⟩,⟨_,rfl,rfl,_,rfl,rfl,rfl⟩⟩
 ·exact⟨rfl,_,rfl,rfl,_,rfl,rfl,rfl⟩
 ·exact⟨rfl,by omega,by omega,⟨_,rfl,rfl,_,rfl,rfl,rfl⟩,rfl,⟨_,rfl,rfl,_,rfl,rfl,rfl⟩,qAG _ _ _ _ _ _ _⟩
 ·exact⟨⟨_,rfl,by kernel_rfl,fun ks h=>by cases h⟩,⟨_,rfl,rfl,_,rfl,rfl,rfl⟩⟩
 ·exact⟨⟨_,rfl,by kernel_rfl,fun ks h=>by cases h⟩,⟨_,rfl,rfl,_,rfl,rfl,rfl⟩⟩
 ·exact⟨rfl,by omega,by omega,⟨_,rfl,rfl,_,rfl,rfl,rfl⟩,rfl,⟨_,rfl,rfl,_,rfl,rfl,rfl⟩,qAG _ _ _ _ _ _ _⟩
 ·exact⟨rfl,by omega,by omega,⟨_,rfl,rfl,_,rfl,rfl,rfl⟩,rfl,⟨_,rfl,rfl,_,rfl,rfl,rfl⟩,qAG _ _ _ _ _ _ _⟩
 ·exact⟨⟨_,rfl,by kernel_rfl,fun ks h=>by cases h⟩,⟨_,rfl,rfl,_,rfl,rfl,rfl⟩⟩
 ·exact⟨⟨_,rfl,by kernel_rfl,fun ks h=>by cases h⟩,⟨_,rfl,rfl,_,rfl,rfl,rfl⟩⟩
 ·exact⟨rfl,by omega,by omega,⟨_,rfl,rfl,_,rfl,rfl,rfl⟩,rfl,⟨_,rfl,rfl,_,rfl,rfl,rfl⟩,qAG _ _ _ _ _ _ _⟩
 ·exact⟨rfl,_,rfl,rfl,_,rfl,rfl,rfl⟩
 ·exact⟨⟨_,rfl,rfl⟩,_,⟨_,rfl,rfl,_,rfl,rfl,rfl⟩⟩
 ·exact⟨⟨_,rfl,by kernel_rfl,fun ks h=>by cases h;exact⟨by kernel_rfl,by kernel_rfl,by kernel_rfl⟩⟩,⟨_,rfl,rfl,_,rfl,rfl,rfl⟩⟩
 ·exact⟨⟨_,rfl,by kernel_rfl,fun ks h=>by cases h;exact⟨by kernel_rfl,by kernel_rfl,by kernel_rfl⟩⟩,⟨_,rfl,rfl,_,rfl,rfl,rfl⟩⟩
 ·exact⟨rfl,by omega,by omega,⟨_,rfl,rfl,_,rfl,rfl,rfl⟩,rfl,⟨_,rfl,rfl,_,rfl,rfl,rfl⟩,qAG _ _ _ _ _ _ _⟩
 ·exact⟨⟨_,rfl,by kernel_rfl,fun ks h=>by cases h⟩,⟨_,rfl,rfl,_,rfl,rfl,rfl⟩⟩
 ·exact⟨⟨_,rfl,by kernel_rfl,fun ks h=>by cases h⟩,⟨_,rfl,rfl,_,rfl,rfl,rfl⟩⟩
 ·exact⟨rfl,by omega,by omega,⟨_,rfl,rfl,_,rfl,rfl,rfl⟩,rfl,⟨_,rfl,rfl,_,rfl,rfl,rfl⟩,qAG _ _ _ _ _ _ _⟩
 ·exact⟨rfl,by omega,by omega,⟨_,rfl,rfl,_,rfl,rfl,rfl⟩,rfl,⟨_,rfl,rfl,_,rfl,rfl,rfl⟩,qAG _ _ _ _ _ _ _⟩
 ·exact⟨⟨_,rfl,by kernel_rfl,fun ks h=>by cases h⟩,⟨_,rfl,rfl,_,rfl,rfl,rfl⟩⟩
 ·exact⟨⟨_,rfl,by kernel_rfl,fun ks h=>by cases h⟩,⟨_,rfl,rfl,_,rfl,rfl,rfl⟩⟩
 ·exact⟨⟨_,rfl,by kernel_rfl,fun ks h=>by cases h⟩,⟨_,rfl,rfl,_,rfl,rfl,rfl⟩⟩
 ·exact⟨⟨_,rfl,by kernel_rfl,fun ks h=>by cases h⟩,⟨_,rfl,rfl,_,rfl,rfl,rfl⟩⟩
 ·exact⟨rfl,by omega,by omega,⟨_,rfl,rfl,_,rfl,rfl,rfl⟩,rfl,⟨_,rfl,rfl,_,rfl,rfl,rfl⟩,qAG _ _ _ _ _ _ _⟩
 ·exact⟨⟨_,rfl,rfl⟩,_,⟨_,rfl,rfl,_,rfl,rfl,rfl⟩⟩
 ·exact⟨⟨_,rfl,rfl⟩,_,⟨_,rfl,rfl,_,rfl,rfl,rfl⟩⟩
 ·exact⟨rfl,by omega,by omega,⟨_,rfl,rfl,_,rfl,rfl,rfl⟩,rfl,⟨_,rfl,rfl,_,rfl,rfl,rfl⟩,qAG _ _ _ _ _ _ _⟩
 ·exact⟨⟨_,rfl,by kernel_rfl,fun ks h=>by cases h;exact⟨by kernel_rfl,by kernel_rfl,by kernel_rfl⟩⟩,⟨_,rfl,rfl,_,rfl,rfl,rfl⟩⟩
 ·exact⟨⟨_,rfl,by kernel_rfl,fun ks h=>by cases h;exact⟨by kernel_rfl,by kernel_rfl,by kernel_rfl⟩⟩,⟨_,rfl,rfl,_,rfl,rfl,rfl⟩⟩
 ·exact⟨rfl,by omega,by omega,⟨_,rfl,rfl,_,rfl,rfl,rfl⟩,rfl,⟨_,rfl,rfl,_,rfl,rfl,rfl⟩,qAG _ _ _ _ _ _ _⟩
 ·exact⟨rfl,by omega,by omega,⟨_,rfl,rfl,_,rfl,rfl,rfl⟩,rfl,⟨_,rfl,rfl,_,rfl,rfl,rfl⟩,qAG _ _ _ _ _ _ _⟩
 ·exact⟨⟨_,rfl,by kernel_rfl,fun ks h=>by cases h⟩,⟨_,rfl,rfl,_,rfl,rfl,rfl⟩⟩
 ·exact⟨⟨_,rfl,by kernel_rfl,fun ks h=>by cases h⟩,⟨_,rfl,rfl,_,rfl,rfl,rfl⟩⟩
 ·exact⟨⟨_,rfl,by kernel_rfl,fun ks h=>by cases h⟩,⟨_,rfl,rfl,_,rfl,rfl,rfl⟩⟩
 ·exact⟨⟨_,rfl,by kernel_rfl,fun ks h=>by cases h⟩,⟨_,rfl,rfl,_,rfl,rfl,rfl⟩⟩
 ·exact⟨rfl,by omega,by omega,⟨_,rfl,rfl,_,rfl,rfl,rfl⟩,rfl,⟨_,rfl,rfl,_,rfl,rfl,rfl⟩,qAG _ _ _ _ _ _ _⟩
 ·exact⟨⟨_,rfl,by kernel_rfl,fun ks h=>by cases h;exact⟨by kernel_rfl,by kernel_rfl,by kernel_rfl⟩⟩,⟨_,rfl,rfl,_,rfl,rfl,rfl⟩⟩
 ·exact⟨⟨_,rfl,by kernel_rfl,fun ks h=>by cases h;exact⟨by kernel_rfl,by kernel_rfl,by kernel_rfl⟩⟩,⟨_,rfl,rfl,_,rfl,rfl,rfl⟩⟩
 ·exact⟨⟨_,rfl,by kernel_rfl,fun ks h=>by cases h;exact⟨by kernel_rfl,by kernel_rfl,by kernel_rfl⟩⟩,⟨_,rfl,rfl,_,rfl,rfl,rfl⟩⟩
 ·exact⟨⟨_,rfl,by kernel_rfl,fun ks h=>by cases h;exact⟨by kernel_rfl,by kernel_rfl,by kernel_rfl⟩⟩,⟨_,rfl,rfl,_,rfl,rfl,rfl⟩⟩
 ·exact⟨rfl,by omega,by omega,⟨_,rfl,rfl,_,rfl,rfl,rfl⟩,rfl,⟨_,rfl,rfl,_,rfl,rfl,rfl⟩,qAG _ _ _ _ _ _ _⟩
 ·exact⟨⟨_,rfl,by kernel_rfl,fun ks h=>by cases h;exact⟨by kernel_rfl,by kernel_rfl,by kernel_rfl⟩⟩,⟨_,rfl,rfl,_,rfl,rfl,rfl⟩⟩
 ·exact⟨⟨_,rfl,by kernel_rfl,fun ks h=>by cases h;exact⟨by kernel_rfl,by kernel_rfl,by kernel_rfl⟩⟩,⟨_,rfl,rfl,_,rfl,rfl,rfl⟩⟩
 ·exact⟨rfl,by omega,by omega,⟨_,rfl,rfl,_,rfl,rfl,rfl⟩,rfl,⟨_,rfl,rfl,_,rfl,rfl,rfl⟩,qAG _ _ _ _ _ _ _⟩
 ·exact⟨⟨_,rfl,rfl⟩,_,⟨_,rfl,rfl,_,rfl,rfl,rfl⟩⟩
 ·exact⟨⟨_,rfl,rfl⟩,_,⟨_,rfl,rfl,_,rfl,rfl,rfl⟩⟩
 ·exact⟨⟨_,rfl,by kernel_rfl,fun ks h=>by cases h;exact⟨by kernel_rfl,by kernel_rfl,by kernel_rfl⟩⟩,⟨_,rfl,rfl,_,rfl,rfl,rfl⟩⟩
 ·exact⟨⟨_,rfl,by kernel_rfl,fun ks h=>by cases h;exact⟨by kernel_rfl,by kernel_rfl,by kernel_rfl⟩⟩,⟨_,rfl,rfl,_,rfl,rfl,rfl⟩⟩
 ·exact⟨rfl,by omega,by omega,⟨_,rfl,rfl,_,rfl,rfl,rfl⟩,rfl,⟨_,rfl,rfl,_,rfl,rfl,rfl⟩,qAG _ _ _ _ _ _ _⟩
 ·exact⟨⟨_,rfl,by kernel_rfl,fun ks h=>by cases h;exact⟨by kernel_rfl,by kernel_rfl,by kernel_rfl⟩⟩,⟨_,rfl,rfl,_,rfl,rfl,rfl⟩⟩
 ·exact⟨⟨_,rfl,by kernel_rfl,fun ks h=>by cases h;exact⟨by kernel_rfl,by kernel_rfl,by kernel_rfl⟩⟩,⟨_,rfl,rfl,_,rfl,rfl,rfl⟩⟩
 ·exact⟨⟨_,rfl,by kernel_rfl,fun ks h=>by cases h;exact⟨by kernel_rfl,by kernel_rfl,by kernel_rfl⟩⟩,⟨_,rfl,rfl,_,rfl,rfl,rfl⟩⟩
 ·exact⟨⟨_,rfl,by kernel_rfl,fun ks h=>by cases h;exact⟨by kernel_rfl,by kernel_rfl,by kernel_rfl⟩⟩,⟨_,rfl,rfl,_,rfl,rfl,rfl⟩⟩
 ·exact⟨rfl,by omega,by omega,⟨_,rfl,rfl,_,rfl,rfl,rfl⟩,rfl,⟨_,rfl,rfl,_,rfl,rfl,rfl⟩,qAG _ _ _ _ _ _ _⟩
 ·exact⟨⟨_,rfl,by kernel_rfl,fun ks h=>by cases h⟩,⟨_,rfl,rfl,_,rfl,rfl,rfl⟩⟩
 ·exact⟨⟨_,rfl,by kernel_rfl,fun ks h=>by cases h⟩,⟨_,rfl,rfl,_,rfl,rfl,rfl⟩⟩
 ·exact⟨⟨_,rfl,rfl⟩,_,⟨_,rfl,rfl,_,rfl,rfl,rfl⟩⟩
 ·exact⟨⟨_,rfl,by kernel_rfl,fun ks h=>by cases h;exact⟨by kernel_rfl,by kernel_rfl,by kernel_rfl⟩⟩,⟨_,rfl,rfl,_,rfl,rfl,rfl⟩⟩
 ·exact⟨⟨_,rfl,by kernel_rfl,fun ks h=>by cases h;exact⟨by kernel_rfl,by kernel_rfl,by kernel_rfl⟩⟩,⟨_,rfl,rfl,_,rfl,rfl,rfl⟩⟩
 ·exact⟨⟨_,rfl,by kernel_rfl,fun ks h=>by cases h;exact⟨by kernel_rfl,by kernel_rfl,by kernel_rfl⟩⟩,⟨_,rfl,rfl,_,rfl,rfl,rfl⟩⟩
 ·exact⟨⟨_,rfl,by kernel_rfl,fun ks h=>by cases h;exact⟨by kernel_rfl,by kernel_rfl,by kernel_rfl⟩⟩,⟨_,rfl,rfl,_,rfl,rfl,rfl⟩⟩
 ·exact⟨⟨_,rfl,rfl⟩,_,⟨_,rfl,rfl,_,rfl,rfl,rfl⟩⟩
 ·exact⟨⟨_,rfl,rfl⟩,_,⟨_,rfl,rfl,_,rfl,rfl,rfl⟩⟩
 ·exact⟨⟨_,rfl,by kernel_rfl,fun ks h=>by cases h⟩,⟨_,rfl,rfl,_,rfl,rfl,rfl⟩⟩
 ·exact⟨⟨_,rfl,by kernel_rfl,fun ks h=>by cases h⟩,⟨_,rfl,rfl,_,rfl,rfl,rfl⟩⟩
 ·exact⟨rfl,by omega,by omega,⟨_,rfl,rfl,_,rfl,rfl,rfl⟩,rfl,⟨_,rfl,rfl,_,rfl,rfl,rfl⟩,qAG _ _ _ _ _ _ _⟩
 ·exact⟨⟨_,rfl,rfl⟩,_,⟨_,rfl,rfl,_,rfl,rfl,rfl⟩⟩
 ·exact⟨⟨_,rfl,by kernel_rfl,fun ks h=>by cases h⟩,⟨_,rfl,rfl,_,rfl,rfl,rfl⟩⟩
 ·exact⟨⟨_,rfl,by kernel_rfl,fun ks h=>by cases h⟩,⟨_,rfl,rfl,_,rfl,rfl,rfl⟩⟩
 ·exact⟨⟨_,rfl,rfl⟩,_,⟨_,rfl,rfl,_,rfl,rfl,rfl⟩⟩
 ·exact⟨⟨_,rfl,by kernel_rfl,fun ks h=>by cases h;exact⟨by kernel_rfl,by kernel_rfl,by kernel_rfl⟩⟩,⟨_,rfl,rfl,_,rfl,rfl,rfl⟩⟩
 ·exact⟨⟨_,rfl,by kernel_rfl,fun ks h=>by cases h;exact⟨by kernel_rfl,by kernel_rfl,by kernel_rfl⟩⟩,⟨_,rfl,rfl,_,rfl,rfl,rfl⟩⟩
 ·exact⟨⟨_,rfl,by kernel_rfl,fun ks h=>by cases h⟩,⟨_,rfl,rfl,_,rfl,rfl,rfl⟩⟩
 ·exact⟨⟨_,rfl,by kernel_rfl,fun ks h=>by cases h⟩,⟨_,rfl,rfl,_,rfl,rfl,rfl⟩⟩
 ·exact⟨⟨_,rfl,by kernel_rfl,fun ks h=>by cases h⟩,⟨_,rfl,rfl,_,rfl,rfl,rfl⟩⟩
 ·exact⟨⟨_,rfl,by kernel_rfl,fun ks h=>by cases h⟩,⟨_,rfl,rfl,_,rfl,rfl,rfl⟩⟩
 ·exact⟨⟨_,rfl,by kernel_rfl,fun ks h=>by cases h;exact⟨by kernel_rfl,by kernel_rfl,by kernel_rfl⟩⟩,⟨_,rfl,rfl,_,rfl,rfl,rfl⟩⟩
 ·exact⟨⟨_,rfl,by kernel_rfl,fun ks h=>by cases h;exact⟨by kernel_rfl,by kernel_rfl,by kernel_rfl⟩⟩,⟨_,rfl,rfl,_,rfl,rfl,rfl⟩⟩
 ·exact⟨⟨_,rfl,by kernel_rfl,fun ks h=>by cases h;exact⟨by kernel_rfl,by kernel_rfl,by kernel_rfl⟩⟩,⟨_,rfl,rfl,_,rfl,rfl,rfl⟩⟩
 ·exact⟨⟨_,rfl,by kernel_rfl,fun ks h=>by cases h;exact⟨by kernel_rfl,by kernel_rfl,by kernel_rfl⟩⟩,⟨_,rfl,rfl,_,rfl,rfl,rfl⟩⟩
 ·exact⟨⟨_,rfl,rfl⟩,_,⟨_,rfl,rfl,_,rfl,rfl,rfl⟩⟩
 ·exact⟨rfl,by omega,by omega,⟨_,rfl,rfl,_,rfl,rfl,rfl⟩,rfl,⟨_,rfl,rfl,_,rfl,rfl,rfl⟩,qAG _ _ _ _ _ _ _⟩
 ·exact⟨⟨_,rfl,rfl⟩,_,⟨_,rfl,rfl,_,rfl,rfl,rfl⟩⟩
 ·exact⟨⟨_,rfl,rfl⟩,_,⟨_,rfl,rfl,_,rfl,rfl,rfl⟩⟩
 ·exact⟨⟨_,rfl,rfl⟩,_,⟨_,rfl,rfl,_,rfl,rfl,rfl⟩⟩
 ·exact⟨⟨_,rfl,rfl⟩,_,⟨_,rfl,rfl,_,rfl,rfl,rfl⟩⟩
 ·exact⟨⟨_,rfl,rfl⟩,_,⟨_,rfl,rfl,_,rfl,rfl,rfl⟩⟩
 ·exact⟨rfl,_,rfl,rfl,_,rfl,rfl,rfl⟩
 ·exact⟨⟨_,rfl,rfl⟩,_,⟨_,rfl,rfl,_,rfl,rfl,rfl⟩⟩
 ·exact⟨⟨_,rfl,rfl⟩,_,⟨_,rfl,rfl,_,rfl,rfl,rfl⟩⟩
 ·exact⟨⟨_,rfl,rfl⟩,_,⟨_,rfl,rfl,_,rfl,rfl,rfl⟩⟩
 ·exact⟨⟨_,rfl,rfl⟩,_,⟨_,rfl,rfl,_,rfl,rfl,rfl⟩⟩
 ·exact⟨⟨_,rfl,rfl⟩,_,⟨_,rfl,rfl,_,rfl,rfl,rfl⟩⟩
 ·exact⟨⟨_,rfl,rfl⟩,_,⟨_,rfl,rfl,_,rfl,rfl,rfl⟩⟩
 ·exact⟨⟨_,rfl,rfl⟩,_,⟨_,rfl,rfl,_,rfl,rfl,rfl⟩⟩
 ·exact⟨rfl,_,rfl,rfl,_,rfl,rfl,rfl⟩
 ·exact⟨rfl,_,rfl,rfl,_,rfl,rfl,rfl⟩
 ·exact⟨rfl,_,rfl,rfl,_,rfl,rfl,rfl⟩
 ·exact⟨⟨_,rfl,rfl⟩,_,⟨_,rfl,rfl,_,rfl,rfl,rfl⟩⟩
 ·exact⟨⟨_,rfl,rfl⟩,_,⟨_,rfl,rfl,_,rfl,rfl,rfl⟩⟩
 ·exact⟨⟨_,rfl,rfl⟩,_,⟨_,rfl,rfl,_,rfl,rfl,rfl⟩⟩
 ·exact⟨⟨_,rfl,rfl⟩,_,⟨_,rfl,rfl,_,rfl,rfl,rfl⟩⟩
 ·exact⟨⟨_,rfl,rfl⟩,_,⟨_,rfl,rfl,_,rfl,rfl,rfl⟩⟩
 ·exact⟨rfl,by omega,by omega,⟨_,rfl,rfl,_,rfl,rfl,rfl⟩,rfl,⟨_,rfl,rfl,_,rfl,rfl,rfl⟩,qAG _ _ _ _ _ _ _⟩
 ·exact⟨rfl,_,rfl,rfl,_,rfl,rfl,rfl⟩
 ·exact⟨⟨_,rfl,rfl⟩,_,⟨_,rfl,rfl,_,rfl,rfl,rfl⟩⟩
 ·exact⟨⟨_,rfl,rfl⟩,_,⟨_,rfl,rfl,_,rfl,rfl,rfl⟩⟩
 ·exact⟨⟨_,rfl,rfl⟩,_,⟨_,rfl,rfl,_,rfl,rfl,rfl⟩⟩
 ·exact⟨⟨_,rfl,rfl⟩,_,⟨_,rfl,rfl,_,rfl,rfl,rfl⟩⟩
 ·exact⟨⟨_,rfl,rfl⟩,_,⟨_,rfl,rfl,_,rfl,rfl,rfl⟩⟩
 ·exact⟨⟨_,rfl,by kernel_rfl,fun ks h=>by cases h⟩,⟨_,rfl,rfl,_,rfl,rfl,rfl⟩⟩
 ·exact⟨⟨_,rfl,by kernel_rfl,fun ks h=>by cases h⟩,⟨_,rfl,rfl,_,rfl,rfl,rfl⟩⟩
 ·exact⟨⟨_,rfl,rfl⟩,_,⟨_,rfl,rfl,_,rfl,rfl,rfl⟩⟩
 ·exact⟨⟨_,rfl,by kernel_rfl,fun ks h=>by cases h;exact⟨by kernel_rfl,by kernel_rfl,by kernel_rfl⟩⟩,⟨_,rfl,rfl,_,rfl,rfl,rfl⟩⟩
 ·exact⟨⟨_,rfl,by kernel_rfl,fun ks h=>by cases h;exact⟨by kernel_rfl,by kernel_rfl,by kernel_rfl⟩⟩,⟨_,rfl,rfl,_,rfl,rfl,rfl⟩⟩
 ·exact⟨⟨_,rfl,rfl⟩,_,⟨_,rfl,rfl,_,rfl,rfl,rfl⟩⟩
 ·exact⟨⟨_,rfl,rfl⟩,_,⟨_,rfl,rfl,_,rfl,rfl,rfl⟩⟩
 ·trivial,(fun t r h=>by
 have h:ars t=some r:=h
 unfold ars at h
 split at h
 ·cases h),(fun f h=>by cases h),
 (fun t n f h=>by
 have h:mts t n=some f:=h
 unfold mts at h
 split at h
 ·cases h
 ·cases h
 ·cases h
 ·cases h
 ·cases h),(fun t h=>by
 have h:qXM t=true:=h
 unfold qXM at h
 split at h
 ·exact⟨_,rfl,rfl⟩
 ·exact⟨_,rfl,rfl⟩
 ·exact⟨_,rfl,rfl⟩
 ·exact⟨_,rfl,rfl⟩
 ·cases h),(fun e=>rfl),(fun t ks h=>by cases h),(fun f=>rfl),(fun t h=>qX4 t h),(fun t h=>qUU t h)⟩
theorem qI:EnvOk Tryz.prog E:=qUV []
theorem zlW (w:List Nat):Zl (Ew w):=⟨fun t e sz b z h=>by
 have h:tys t= .slice e sz b z:=h
 unfold tys at h
 split at h<;>cases h<;>rfl⟩
theorem zl:Zl E:=zlW []
theorem mixed:Tryz.prog.follows .mixedOrders=true:=by kernel_rfl
def qDx:FuncId→Con:=fun _ _ _ _=>Bad 1000
theorem qP:qY Tryz.prog qDx:=fun f A H K h=>by cases h
def qX5:FuncId→Option Dt:=fun _=>none
theorem qEd:qBk Tryz.prog qX5:=fun f d h=>by cases h
set_option maxRecDepth 100000
theorem qMM:Opn Tryz.prog 106 Window:=by
 intro H enc w fuel cs x h
 obtain⟨xs,n,_,rfl,hl,hxl,hf⟩:=DataW.trod_struct Tryz.underlying106 h
 rw[show Tryz.prog.cellsOf 106=3 by kernel_rfl]at hl
 obtain⟨c0,c1,c2,rfl⟩:∃c0 c1 c2,cs=[c0,c1,c2]:=by
  match cs,hl with|[c0,c1,c2],_=>exact⟨c0,c1,c2,rfl⟩
 obtain⟨x0,x1,x2,rfl⟩:∃x0 x1 x2,xs=[x0,x1,x2]:=by
  match xs,hxl with|[x0,x1,x2],_=>exact⟨x0,x1,x2,rfl⟩
 have h0:DataW.trod enc Tryz.prog w 0 (fun _=>true) true n 3 (([c0,c1,c2].drop 0).take (Tryz.prog.cellsOf 3))=some x0:=hf 0 _ rfl
 rw[show Tryz.prog.cellsOf 3=1 by kernel_rfl]at h0
 have h0:DataW.trod enc Tryz.prog w 0 (fun _=>true) true n 3 [c0]=some x0:=h0
 obtain⟨y0,u0,b0,e0⟩:=(qAS Tryz.underlying3) h0
 have h1:DataW.trod enc Tryz.prog w 0 (fun _=>true) true n 3 (([c0,c1,c2].drop 1).take (Tryz.prog.cellsOf 3))=some x1:=hf 1 _ rfl
 rw[show Tryz.prog.cellsOf 3=1 by kernel_rfl]at h1
 have h1:DataW.trod enc Tryz.prog w 0 (fun _=>true) true n 3 [c1]=some x1:=h1
 obtain⟨y1,u1,b1,e1⟩:=(qAS Tryz.underlying3) h1
 have h2:DataW.trod enc Tryz.prog w 0 (fun _=>true) true n 3 (([c0,c1,c2].drop 2).take (Tryz.prog.cellsOf 3))=some x2:=hf 2 _ rfl
 rw[show Tryz.prog.cellsOf 3=1 by kernel_rfl]at h2
 have h2:DataW.trod enc Tryz.prog w 0 (fun _=>true) true n 3 [c2]=some x2:=h2
 obtain⟨y2,u2,b2,e2⟩:=(qAS Tryz.underlying3) h2
 exact⟨⟨y0,y1,y2⟩,⟨u0,u1,u2⟩,by simp only[Siz.bulk,qBn,qBO,List.map]at*;omega,qU e0 (qU e1 (qU e2 (qBw)))⟩
theorem qOf:Opn Tryz.prog 24 Table:=by
 intro H enc w fuel cs x h
 obtain⟨xs,n,_,rfl,hl,hxl,hf⟩:=DataW.trod_struct Tryz.underlying24 h
 rw[show Tryz.prog.cellsOf 24=2 by kernel_rfl]at hl
 obtain⟨c0,c1,rfl⟩:∃c0 c1,cs=[c0,c1]:=by
  match cs,hl with|[c0,c1],_=>exact⟨c0,c1,rfl⟩
 obtain⟨x0,x1,rfl⟩:∃x0 x1,xs=[x0,x1]:=by
  match xs,hxl with|[x0,x1],_=>exact⟨x0,x1,rfl⟩
 have h0:DataW.trod enc Tryz.prog w 0 (fun _=>true) true n 3 (([c0,c1].drop 0).take (Tryz.prog.cellsOf 3))=some x0:=hf 0 _ rfl
 rw[show Tryz.prog.cellsOf 3=1 by kernel_rfl]at h0
 have h0:DataW.trod enc Tryz.prog w 0 (fun _=>true) true n 3 [c0]=some x0:=h0
 obtain⟨y0,u0,b0,e0⟩:=(qAS Tryz.underlying3) h0
 have h1:DataW.trod enc Tryz.prog w 0 (fun _=>true) true n 22 (([c0,c1].drop 1).take (Tryz.prog.cellsOf 22))=some x1:=hf 1 _ rfl
 rw[show Tryz.prog.cellsOf 22=1 by kernel_rfl]at h1
 have h1:DataW.trod enc Tryz.prog w 0 (fun _=>true) true n 22 [c1]=some x1:=h1
 obtain⟨y1,u1,b1,e1⟩:=(qCv Tryz.underlying22 (by kernel_rfl) (by decide) qMM) h1
 exact⟨⟨y0,y1⟩,⟨u0,u1⟩,by simp only[Siz.bulk,qBn,qBO,List.map]at*;omega,qU e0 (qU e1 (qBw))⟩
theorem qS0:Opn Tryz.prog 131 Ins:=by
 intro H enc w fuel cs x h
 obtain⟨xs,n,_,rfl,hl,hxl,hf⟩:=DataW.trod_struct Tryz.underlying131 h
 rw[show Tryz.prog.cellsOf 131=3 by kernel_rfl]at hl
 obtain⟨c0,c1,c2,rfl⟩:∃c0 c1 c2,cs=[c0,c1,c2]:=by
  match cs,hl with|[c0,c1,c2],_=>exact⟨c0,c1,c2,rfl⟩
 obtain⟨x0,x1,x2,rfl⟩:∃x0 x1 x2,xs=[x0,x1,x2]:=by
  match xs,hxl with|[x0,x1,x2],_=>exact⟨x0,x1,x2,rfl⟩
 have h0:DataW.trod enc Tryz.prog w 0 (fun _=>true) true n 3 (([c0,c1,c2].drop 0).take (Tryz.prog.cellsOf 3))=some x0:=hf 0 _ rfl
 rw[show Tryz.prog.cellsOf 3=1 by kernel_rfl]at h0
 have h0:DataW.trod enc Tryz.prog w 0 (fun _=>true) true n 3 [c0]=some x0:=h0
 obtain⟨y0,u0,b0,e0⟩:=(qAS Tryz.underlying3) h0
 have h1:DataW.trod enc Tryz.prog w 0 (fun _=>true) true n 3 (([c0,c1,c2].drop 1).take (Tryz.prog.cellsOf 3))=some x1:=hf 1 _ rfl
 rw[show Tryz.prog.cellsOf 3=1 by kernel_rfl]at h1
 have h1:DataW.trod enc Tryz.prog w 0 (fun _=>true) true n 3 [c1]=some x1:=h1
 obtain⟨y1,u1,b1,e1⟩:=(qAS Tryz.underlying3) h1
 have h2:DataW.trod enc Tryz.prog w 0 (fun _=>true) true n 3 (([c0,c1,c2].drop 2).take (Tryz.prog.cellsOf 3))=some x2:=hf 2 _ rfl
 rw[show Tryz.prog.cellsOf 3=1 by kernel_rfl]at h2
 have h2:DataW.trod enc Tryz.prog w 0 (fun _=>true) true n 3 [c2]=some x2:=h2
 obtain⟨y2,u2,b2,e2⟩:=(qAS Tryz.underlying3) h2
 exact⟨⟨y0,y1,y2⟩,⟨u0,u1,u2⟩,by simp only[Siz.bulk,qBn,qBO,List.map]at*;omega,qU e0 (qU e1 (qU e2 (qBw)))⟩
theorem qUW:Opn Tryz.prog 48 Vm:=by
 intro H enc w fuel cs x h
 obtain⟨xs,n,_,rfl,hl,hxl,hf⟩:=DataW.trod_struct Tryz.underlying48 h
 rw[show Tryz.prog.cellsOf 48=4 by kernel_rfl]at hl
 obtain⟨c0,c1,c2,c3,rfl⟩:∃c0 c1 c2 c3,cs=[c0,c1,c2,c3]:=by
  match cs,hl with|[c0,c1,c2,c3],_=>exact⟨c0,c1,c2,c3,rfl⟩
 obtain⟨x0,x1,x2,x3,rfl⟩:∃x0 x1 x2 x3,xs=[x0,x1,x2,x3]:=by
  match xs,hxl with|[x0,x1,x2,x3],_=>exact⟨x0,x1,x2,x3,rfl⟩
 have h0:DataW.trod enc Tryz.prog w 0 (fun _=>true) true n 3 (([c0,c1,c2,c3].drop 0).take (Tryz.prog.cellsOf 3))=some x0:=hf 0 _ rfl
 rw[show Tryz.prog.cellsOf 3=1 by kernel_rfl]at h0
 have h0:DataW.trod enc Tryz.prog w 0 (fun _=>true) true n 3 [c0]=some x0:=h0
 obtain⟨y0,u0,b0,e0⟩:=(qAS Tryz.underlying3) h0
 have h1:DataW.trod enc Tryz.prog w 0 (fun _=>true) true n 46 (([c0,c1,c2,c3].drop 1).take (Tryz.prog.cellsOf 46))=some x1:=hf 1 _ rfl
 rw[show Tryz.prog.cellsOf 46=1 by kernel_rfl]at h1
 have h1:DataW.trod enc Tryz.prog w 0 (fun _=>true) true n 46 [c1]=some x1:=h1
 obtain⟨y1,u1,b1,e1⟩:=(qCv Tryz.underlying46 (by kernel_rfl) (by decide) (qAS Tryz.underlying3)) h1
 have h2:DataW.trod enc Tryz.prog w 0 (fun _=>true) true n 4 (([c0,c1,c2,c3].drop 2).take (Tryz.prog.cellsOf 4))=some x2:=hf 2 _ rfl
 rw[show Tryz.prog.cellsOf 4=1 by kernel_rfl]at h2
 have h2:DataW.trod enc Tryz.prog w 0 (fun _=>true) true n 4 [c2]=some x2:=h2
 obtain⟨y2,u2,b2,e2⟩:=(qLz Tryz.underlying4) h2
 have h3:DataW.trod enc Tryz.prog w 0 (fun _=>true) true n 4 (([c0,c1,c2,c3].drop 3).take (Tryz.prog.cellsOf 4))=some x3:=hf 3 _ rfl
 rw[show Tryz.prog.cellsOf 4=1 by kernel_rfl]at h3
 have h3:DataW.trod enc Tryz.prog w 0 (fun _=>true) true n 4 [c3]=some x3:=h3
 obtain⟨y3,u3,b3,e3⟩:=(qLz Tryz.underlying4) h3
 exact⟨⟨y0,y1,y2,y3⟩,⟨u0,u1,u2,u3⟩,by simp only[Siz.bulk,qBn,qBO,List.map]at*;omega,qU e0 (qU e1 (qU e2 (qU e3 (qBw))))⟩
theorem qQl:Opn Tryz.prog 50 Part:=by
 intro H enc w fuel cs x h
 obtain⟨xs,n,_,rfl,hl,hxl,hf⟩:=DataW.trod_struct Tryz.underlying50 h
 rw[show Tryz.prog.cellsOf 50=6 by kernel_rfl]at hl
 obtain⟨c0,c1,c2,c3,c4,c5,rfl⟩:∃c0 c1 c2 c3 c4 c5,cs=[c0,c1,c2,c3,c4,c5]:=by
  match cs,hl with|[c0,c1,c2,c3,c4,c5],_=>exact⟨c0,c1,c2,c3,c4,c5,rfl⟩
 obtain⟨x0,x1,x2,rfl⟩:∃x0 x1 x2,xs=[x0,x1,x2]:=by
  match xs,hxl with|[x0,x1,x2],_=>exact⟨x0,x1,x2,rfl⟩
 have h0:DataW.trod enc Tryz.prog w 0 (fun _=>true) true n 45 (([c0,c1,c2,c3,c4,c5].drop 0).take (Tryz.prog.cellsOf 45))=some x0:=hf 0 _ rfl
 rw[show Tryz.prog.cellsOf 45=1 by kernel_rfl]at h0
 have h0:DataW.trod enc Tryz.prog w 0 (fun _=>true) true n 45 [c0]=some x0:=h0
 obtain⟨y0,u0,b0,e0⟩:=(qCv Tryz.underlying45 (by kernel_rfl) (by decide) qS0) h0
 have h1:DataW.trod enc Tryz.prog w 0 (fun _=>true) true n 48 (([c0,c1,c2,c3,c4,c5].drop 1).take (Tryz.prog.cellsOf 48))=some x1:=hf 1 _ rfl
 rw[show Tryz.prog.cellsOf 48=4 by kernel_rfl]at h1
 have h1:DataW.trod enc Tryz.prog w 0 (fun _=>true) true n 48 [c1,c2,c3,c4]=some x1:=h1
 obtain⟨y1,u1,b1,e1⟩:=qUW h1
 have h2:DataW.trod enc Tryz.prog w 0 (fun _=>true) true n 46 (([c0,c1,c2,c3,c4,c5].drop 5).take (Tryz.prog.cellsOf 46))=some x2:=hf 2 _ rfl
 rw[show Tryz.prog.cellsOf 46=1 by kernel_rfl]at h2
 have h2:DataW.trod enc Tryz.prog w 0 (fun _=>true) true n 46 [c5]=some x2:=h2
 obtain⟨y2,u2,b2,e2⟩:=(qCv Tryz.underlying46 (by kernel_rfl) (by decide) (qAS Tryz.underlying3)) h2
 exact⟨⟨y0,y1,y2⟩,⟨u0,u1,u2⟩,by simp only[Siz.bulk,qBn,qBO,List.map]at*;omega,qU e0 (qU e1 (qU e2 (qBw)))⟩
theorem qQm:Opn Tryz.prog 37 Wire:=by
 intro H enc w fuel cs x h
 obtain⟨xs,n,_,rfl,hl,hxl,hf⟩:=DataW.trod_struct Tryz.underlying37 h
 rw[show Tryz.prog.cellsOf 37=3 by kernel_rfl]at hl
 obtain⟨c0,c1,c2,rfl⟩:∃c0 c1 c2,cs=[c0,c1,c2]:=by
  match cs,hl with|[c0,c1,c2],_=>exact⟨c0,c1,c2,rfl⟩
 obtain⟨x0,x1,x2,rfl⟩:∃x0 x1 x2,xs=[x0,x1,x2]:=by
  match xs,hxl with|[x0,x1,x2],_=>exact⟨x0,x1,x2,rfl⟩
 have h0:DataW.trod enc Tryz.prog w 0 (fun _=>true) true n 3 (([c0,c1,c2].drop 0).take (Tryz.prog.cellsOf 3))=some x0:=hf 0 _ rfl
 rw[show Tryz.prog.cellsOf 3=1 by kernel_rfl]at h0
 have h0:DataW.trod enc Tryz.prog w 0 (fun _=>true) true n 3 [c0]=some x0:=h0
 obtain⟨y0,u0,b0,e0⟩:=(qAS Tryz.underlying3) h0
 have h1:DataW.trod enc Tryz.prog w 0 (fun _=>true) true n 3 (([c0,c1,c2].drop 1).take (Tryz.prog.cellsOf 3))=some x1:=hf 1 _ rfl
 rw[show Tryz.prog.cellsOf 3=1 by kernel_rfl]at h1
 have h1:DataW.trod enc Tryz.prog w 0 (fun _=>true) true n 3 [c1]=some x1:=h1
 obtain⟨y1,u1,b1,e1⟩:=(qAS Tryz.underlying3) h1
 have h2:DataW.trod enc Tryz.prog w 0 (fun _=>true) true n 3 (([c0,c1,c2].drop 2).take (Tryz.prog.cellsOf 3))=some x2:=hf 2 _ rfl
 rw[show Tryz.prog.cellsOf 3=1 by kernel_rfl]at h2
 have h2:DataW.trod enc Tryz.prog w 0 (fun _=>true) true n 3 [c2]=some x2:=h2
 obtain⟨y2,u2,b2,e2⟩:=(qAS Tryz.underlying3) h2
 exact⟨⟨y0,y1,y2⟩,⟨u0,u1,u2⟩,by simp only[Siz.bulk,qBn,qBO,List.map]at*;omega,qU e0 (qU e1 (qU e2 (qBw)))⟩
theorem qMN:Opn Tryz.prog 28 Module:=by
 intro H enc w fuel cs x h
 obtain⟨xs,n,_,rfl,hl,hxl,hf⟩:=DataW.trod_struct Tryz.underlying28 h
 rw[show Tryz.prog.cellsOf 28=6 by kernel_rfl]at hl
 obtain⟨c0,c1,c2,c3,c4,c5,rfl⟩:∃c0 c1 c2 c3 c4 c5,cs=[c0,c1,c2,c3,c4,c5]:=by
  match cs,hl with|[c0,c1,c2,c3,c4,c5],_=>exact⟨c0,c1,c2,c3,c4,c5,rfl⟩
 obtain⟨x0,x1,x2,x3,x4,rfl⟩:∃x0 x1 x2 x3 x4,xs=[x0,x1,x2,x3,x4]:=by
  match xs,hxl with|[x0,x1,x2,x3,x4],_=>exact⟨x0,x1,x2,x3,x4,rfl⟩
 have h0:DataW.trod enc Tryz.prog w 0 (fun _=>true) true n 24 (([c0,c1,c2,c3,c4,c5].drop 0).take (Tryz.prog.cellsOf 24))=some x0:=hf 0 _ rfl
 rw[show Tryz.prog.cellsOf 24=2 by kernel_rfl]at h0
 have h0:DataW.trod enc Tryz.prog w 0 (fun _=>true) true n 24 [c0,c1]=some x0:=h0
 obtain⟨y0,u0,b0,e0⟩:=qOf h0
 have h1:DataW.trod enc Tryz.prog w 0 (fun _=>true) true n 25 (([c0,c1,c2,c3,c4,c5].drop 2).take (Tryz.prog.cellsOf 25))=some x1:=hf 1 _ rfl
 rw[show Tryz.prog.cellsOf 25=1 by kernel_rfl]at h1
 have h1:DataW.trod enc Tryz.prog w 0 (fun _=>true) true n 25 [c2]=some x1:=h1
 obtain⟨y1,u1,b1,e1⟩:=(qCv Tryz.underlying25 (by kernel_rfl) (by decide) qQl) h1
 have h2:DataW.trod enc Tryz.prog w 0 (fun _=>true) true n 26 (([c0,c1,c2,c3,c4,c5].drop 3).take (Tryz.prog.cellsOf 26))=some x2:=hf 2 _ rfl
 rw[show Tryz.prog.cellsOf 26=1 by kernel_rfl]at h2
 have h2:DataW.trod enc Tryz.prog w 0 (fun _=>true) true n 26 [c3]=some x2:=h2
 obtain⟨y2,u2,b2,e2⟩:=(qCv Tryz.underlying26 (by kernel_rfl) (by decide) qQm) h2
 have h3:DataW.trod enc Tryz.prog w 0 (fun _=>true) true n 3 (([c0,c1,c2,c3,c4,c5].drop 4).take (Tryz.prog.cellsOf 3))=some x3:=hf 3 _ rfl
 rw[show Tryz.prog.cellsOf 3=1 by kernel_rfl]at h3
 have h3:DataW.trod enc Tryz.prog w 0 (fun _=>true) true n 3 [c4]=some x3:=h3
 obtain⟨y3,u3,b3,e3⟩:=(qAS Tryz.underlying3) h3
 have h4:DataW.trod enc Tryz.prog w 0 (fun _=>true) true n 3 (([c0,c1,c2,c3,c4,c5].drop 5).take (Tryz.prog.cellsOf 3))=some x4:=hf 4 _ rfl
 rw[show Tryz.prog.cellsOf 3=1 by kernel_rfl]at h4
 have h4:DataW.trod enc Tryz.prog w 0 (fun _=>true) true n 3 [c5]=some x4:=h4
 obtain⟨y4,u4,b4,e4⟩:=(qAS Tryz.underlying3) h4
 exact⟨⟨y0,y1,y2,y3,y4⟩,⟨u0,u1,u2,u3,u4⟩,by simp only[Siz.bulk,qBn,qBO,List.map]at*;omega,qU e0 (qU e1 (qU e2 (qU e3 (qU e4 (qBw)))))⟩
theorem qX6 {b:Th Bool}{H:Hp}{kl:List Nat}(h:b ()=true):qAf (.bc true) [] (.b b) H kl:=by
 cbv
 repeat' first|(refine Stp.mk ?_;cbv)|(refine Gen.mk fun r hr=> ?_;(try simp only[Dat.ok,Dat.dec,Leaf.ok,Leaf.val,Z0,Z1,Z2,Z3,Z4,Z5,Z6,Z7,Z8,Z9,Z10,Z11,Z12,Z13,Z14,qA,qB]at hr);cbv)|exact trivial|rfl|refine Both.mk ?_ ?_|(refine Imp.mk fun h=> ?_;(try dsimp only at h);(try simp only[nc,Int.toNat_natCast,ne_eq,zz]at h);(try simp only[nc]at h))|refine Ob.mk ?_ ?_|refine Chk.mk (by kernel_rfl) ?_|refine Eq'.mk ?_|(refine AllN.mk fun i hi=> ?_;cbv)|(refine AllC.mk fun c hc hcm=> ?_;(try dsimp only at hc);cbv)|(refine AllS.mk fun r hr=> ?_;(try simp only[Dat.ok,Dat.dec,Leaf.ok,Leaf.val,Z0,Z1,Z2,Z3,Z4,Z5,Z6,Z7,Z8,Z9,Z10,Z11,Z12,Z13,Z14,qA]at hr);cbv)
 exact h
theorem qX7 {H:Hp}{kl:List Nat}:qAf (.bc true) [] (.bc true) H kl:=by
 cbv
 repeat' first|(refine Stp.mk ?_;cbv)|(refine Gen.mk fun r hr=> ?_;(try simp only[Dat.ok,Dat.dec,Leaf.ok,Leaf.val,Z0,Z1,Z2,Z3,Z4,Z5,Z6,Z7,Z8,Z9,Z10,Z11,Z12,Z13,Z14,qA,qB]at hr);cbv)|exact trivial|rfl|refine Both.mk ?_ ?_|(refine Imp.mk fun h=> ?_;(try dsimp only at h);(try simp only[nc,Int.toNat_natCast,ne_eq,zz]at h);(try simp only[nc]at h))|refine Ob.mk ?_ ?_|refine Chk.mk (by kernel_rfl) ?_|refine Eq'.mk ?_|(refine AllN.mk fun i hi=> ?_;cbv)|(refine AllC.mk fun c hc hcm=> ?_;(try dsimp only at hc);cbv)|(refine AllS.mk fun r hr=> ?_;(try simp only[Dat.ok,Dat.dec,Leaf.ok,Leaf.val,Z0,Z1,Z2,Z3,Z4,Z5,Z6,Z7,Z8,Z9,Z10,Z11,Z12,Z13,Z14,qA]at hr);cbv)
end Go.Proofs.YtiaiifcgbjlfoaaGreatDoor
