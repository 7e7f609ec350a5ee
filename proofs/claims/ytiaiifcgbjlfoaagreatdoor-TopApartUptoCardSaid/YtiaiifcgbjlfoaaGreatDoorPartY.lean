/- Parts, plain: what a tick does to each part. -/
import Derived.Test.YtiaiifcgbjlfoaaGreatDoorPartV
set_option linter.all false
namespace Go.Proofs.YtiaiifcgbjlfoaaGreatDoor
open Go Go.Abs
theorem qUh {m:Module}(h:Siz.fit m):qCH m:=by
 have e:maxLen≤9223372036854775807:=by unfold maxLen;decide
 obtain⟨⟨_,⟨h1,_⟩⟩,⟨h2,h3⟩,⟨h4,_⟩,_,_⟩:=h
 refine⟨Nat.le_trans h1 e,Nat.le_trans h2 e,Nat.le_trans h4 e,fun p hp=> ?_⟩
 obtain⟨⟨q1,_⟩,⟨_,⟨q2,_⟩,_,_⟩,⟨q3,_⟩⟩:=h3 p hp
 exact⟨Nat.le_trans q1 e,Nat.le_trans q2 e,Nat.le_trans q3 e⟩
theorem qXh {p:Part}(P:POk p):p.code.length≤9223372036854775807∧p.vm.regs.length≤9223372036854775807∧p.box.length≤9223372036854775807:=
 ⟨Nat.le_trans (qC9 P.c) (by decide),Nat.le_trans (Nat.le_of_eq (qB4 P.v).2.1) (by decide),Nat.le_trans P.l (by decide)⟩
theorem qMa:∀{n:Nat}{m:Module},MOk m→(qAK n m).2=0→MOk (qAK n m).1∧(qAK n m).1.now=m.now+n∧(qAK n m).1.table=m.table∧(qAK n m).1.wires=m.wires∧(qAK n m).1.parts.length=m.parts.length∧m.lost≤(qAK n m).1.lost
 |0,m,M,_=>⟨M,by show m.now=m.now+0;omega,rfl,rfl,rfl,Int.le_refl _⟩
 |n+1,m,M,h=>by
  by_cases h1:(qAM m).2=0
  ·rw[qHi h1]at h ⊢
   obtain⟨a1,a2,a3,a4,a5,a6⟩:=qK1 M h1
   obtain⟨b1,b2,b3,b4,b5,b6⟩:=qMa a1 h
   exact⟨b1,by rw[b2,a2];omega,b3.trans a3,b4.trans a4,b5.trans a5,by omega⟩
  ·rw[qJN h1]at h;exact absurd h h1
theorem qPw {m:Module}{n:Int}(h:(qEm m n).2=0):qAU m=0∧0≤n∧n≤5000∧qEm m n=qAK n.toNat m:=by
 unfold qEm at h ⊢
 by_cases h1:qAU m=0
 ·rw[if_neg (by omega)]at h ⊢
  by_cases h2:n<0∨5000<n
  ·rw[if_pos h2]at h;cases h
  ·rw[if_neg h2];exact⟨h1,by omega,by omega,rfl⟩
 ·rw[if_pos h1]at h;exact absurd h h1
end Go.Proofs.YtiaiifcgbjlfoaaGreatDoor

namespace Go.Proofs.YtiaiifcgbjlfoaaGreatDoor
open Go Go.Abs
def qUB (p q:Part):Prop:=q.code=p.code∧q.vm=p.vm∧∃e,q.box=p.box++e
theorem qUB.refl {p:Part}:qUB p p:=⟨rfl,rfl,[],by simp⟩
theorem qUB.trans {p q r:Part}(h:qUB p q) (g:qUB q r):qUB p r:=by
 obtain⟨h1,h2,e,h3⟩:=h
 obtain⟨g1,g2,f,g3⟩:=g
 exact⟨g1.trans h1,g2.trans h2,e++f,by rw[g3,h3,List.append_assoc]⟩
theorem qMb {ps:List Part}{q:Nat}{x:Part}(i:Nat):(ps.set q x).getD i Dat.d0=if i=q∧i<ps.length then x else ps.getD i Dat.d0:=by
 by_cases hi:i<ps.length
 ·rw[qWU hi]
  by_cases h:i=q
  ·rw[if_pos h,if_pos ⟨h,hi⟩]
  ·rw[if_neg h,if_neg (fun z=>h z.1)]
 ·rw[if_neg (fun z=>hi z.2),List.getD_eq_getElem?_getD,List.getD_eq_getElem?_getD,List.getElem?_eq_none (by rw[List.length_set];omega),List.getElem?_eq_none (by omega)]
end Go.Proofs.YtiaiifcgbjlfoaaGreatDoor
