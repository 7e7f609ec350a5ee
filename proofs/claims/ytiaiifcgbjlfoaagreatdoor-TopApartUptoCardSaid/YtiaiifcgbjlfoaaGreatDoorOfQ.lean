/- What span.Of makes. -/
import Derived.Test.YtiaiifcgbjlfoaaGreatDoorOfP
set_option linter.all false
namespace Go.Proofs.YtiaiifcgbjlfoaaGreatDoor
open Go Go.Abs
theorem qYj {n:Int}{l:List Span}(h:(ofV n l).2=0):∃o,ofN n l=some o∧1≤n∧n≤1000000∧l.length≤200∧ofV n l=(⟨n,o⟩,0):=by
 by_cases h1:n<1∨1000000<n
 ·rw[qPA h1]at h;exact absurd h (by decide)
 by_cases h2:200<l.length
 ·rw[qJP h1 h2]at h;exact absurd h (by decide)
 cases h3:ofN n l with
 |none=>rw[qMj h1 h2 h3]at h;exact absurd h (by decide)
 |some o=>exact⟨o,rfl,by omega,by omega,by omega,qIq h1 h2 h3⟩
theorem qRu {n:Int}{r:List Span}(h:(ofV n r).2=0):Right (ofV n r).1∧(ofV n r).1.size=n∧(∀x∈r,¬qGC n x)∧(∀t,inB (ofV n r).1.spans t=inB r t):=by
 obtain⟨o,h1,h2,h3,h4,h5⟩:=qYj h
 have hb:∀x∈r,¬qGC n x:=fun x hx hx'=>by rw[qUn ⟨x,hx,hx'⟩]at h1;cases h1
 obtain⟨o',k1,k2,k3,k4⟩:=qSv hb
 have:o'=o:=Option.some.inj (k1.symm.trans h1)
 subst this
 rw[h5]
 exact⟨⟨h2,h3,Nat.le_trans k4 h4,k2⟩,rfl,hb,k3⟩
end Go.Proofs.YtiaiifcgbjlfoaaGreatDoor
