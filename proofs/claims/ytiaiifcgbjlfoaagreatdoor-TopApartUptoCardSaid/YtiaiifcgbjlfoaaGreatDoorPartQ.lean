/- Parts, plain: what a module is, a tick, a run. -/
import Derived.Test.YtiaiifcgbjlfoaaGreatDoorPTab
import Derived.Test.YtiaiifcgbjlfoaaGreatDoorVmQ
set_option linter.all false
namespace Go.Proofs.YtiaiifcgbjlfoaaGreatDoor
open Go Go.Abs
def qDM (l:List Int):Bool:=l.any fun n=> !qC5 n
def qIC (p:Part):Int:=if¬qAn p.code=0 then qAn p.code else if¬qA1 p.vm=0 then qA1 p.vm else if p.code.length<p.vm.at_ then 4 else if 50<p.box.length then 2 else if qDM p.box=true then 4 else 0
def qEl:List Part→Int
 |[]=>0
 |p::r=>if qIC p=0 then qEl r else qIC p
def qM2 (n:Nat) (w:Wire):Bool:=decide (0≤w.frm∧w.frm<n∧0≤w.to∧w.to<n∧0≤w.port∧w.port<4)
def qBd (m:Module) (i:Int):Bool:=decide (0≤i∧i<m.parts.length)
def qUA (n:Int):Bool:=decide (0≤n∧n≤1099511627776)
def qAU (m:Module):Int:=if¬qBJ m.table=0 then qBJ m.table else if 16<m.parts.length∨32<m.wires.length then 2 else if¬qEl m.parts=0 then qEl m.parts else
 if m.wires.all (qM2 m.parts.length)=false then 4 else if qUA m.now=false∨qUA m.lost=false then 4 else 0
theorem qIe:∀{l:List Part},qEl l=0↔∀p∈l,qIC p=0
 |[]=>by simp[qEl]
 |p::r=>by
  rw[qEl]
  by_cases h:qIC p=0
  ·rw[if_pos h,qIe];simp[h]
  ·rw[if_neg h];simp[h]
structure MOk (m:Module):Prop where
 t:qBJ m.table=0
 lp:m.parts.length≤16
 lw:m.wires.length≤32
 p:∀p∈m.parts,qIC p=0
 w:∀w∈m.wires,qM2 m.parts.length w=true
 now:0≤m.now∧m.now≤1099511627776
 lost:0≤m.lost∧m.lost≤1099511627776
theorem qAZ {m:Module}:qAU m=0↔MOk m:=by
 unfold qAU
 by_cases h1:qBJ m.table=0
 ·rw[if_neg (by omega)]
  by_cases h2:16<m.parts.length∨32<m.wires.length
  ·rw[if_pos h2];exact⟨fun h=>(by cases h),fun h=>by have:=h.lp;have:=h.lw;omega⟩
  ·rw[if_neg h2]
   by_cases h3:qEl m.parts=0
   ·rw[if_neg (by omega)]
    by_cases h4:m.wires.all (qM2 m.parts.length)=false
    ·rw[if_pos h4]
     refine⟨fun h=>(by cases h),fun h=> ?_⟩
     rw[List.all_eq_true.2 h.w]at h4;cases h4
    ·rw[if_neg h4]
     have h4:m.wires.all (qM2 m.parts.length)=true:=by simpa using h4
     by_cases h5:qUA m.now=false∨qUA m.lost=false
     ·rw[if_pos h5]
      refine⟨fun h=>(by cases h),fun h=> ?_⟩
      rcases h5 with h5|h5
      ·have:=of_decide_eq_false h5;exact absurd h.now this
      ·have:=of_decide_eq_false h5;exact absurd h.lost this
     ·rw[if_neg h5]
      refine⟨fun _=>⟨h1,by omega,by omega,qIe.1 h3,List.all_eq_true.1 h4, ?_, ?_⟩,fun _=>rfl⟩
      ·exact of_decide_eq_true (by rcases hb:qUA m.now with _|_;exact absurd (.inl hb) h5;exact hb)
      ·exact of_decide_eq_true (by rcases hb:qUA m.lost with _|_;exact absurd (.inr hb) h5;exact hb)
   ·rw[if_pos h3];exact⟨fun h=>absurd h h3,fun h=>absurd (qIe.2 h.p) h3⟩
 ·rw[if_pos h1];exact⟨fun h=>absurd h h1,fun h=>absurd h.t h1⟩
structure POk (p:Part):Prop where
 c:qAn p.code=0
 v:qA1 p.vm=0
 a:p.vm.at_≤p.code.length
 l:p.box.length≤50
 n:qPM p.box
theorem qB5 {p:Part}:qIC p=0↔POk p:=by
 unfold qIC
 by_cases h1:qAn p.code=0
 ·rw[if_neg (by omega)]
  by_cases h2:qA1 p.vm=0
  ·rw[if_neg (by omega)]
   by_cases h3:p.code.length<p.vm.at_
   ·rw[if_pos h3];exact⟨fun h=>(by cases h),fun h=>by have:=h.a;omega⟩
   ·rw[if_neg h3]
    by_cases h4:50<p.box.length
    ·rw[if_pos h4];exact⟨fun h=>(by cases h),fun h=>by have:=h.l;omega⟩
    ·rw[if_neg h4]
     by_cases h5:qDM p.box=true
     ·rw[if_pos h5]
      refine⟨fun h=>(by cases h),fun h=> ?_⟩
      have:=qDt.2 h.n
      unfold qDM at h5
      rw[this]at h5;cases h5
     ·rw[if_neg h5]
      exact⟨fun _=>⟨h1,h2,by omega,by omega,qDt.1 (by unfold qDM at h5;simpa using h5)⟩,fun _=>rfl⟩
  ·rw[if_pos h2];exact⟨fun h=>absurd h h2,fun h=>absurd h.v h2⟩
 ·rw[if_pos h1];exact⟨fun h=>absurd h h1,fun h=>absurd h.c h1⟩
def qBF (m:Module) (w:Wire) (n:Int):Module:=
 if(m.parts.getD w.to.toNat Dat.d0).box.length<50 then⟨m.table,m.parts.set w.to.toNat ⟨(m.parts.getD w.to.toNat Dat.d0).code,(m.parts.getD w.to.toNat Dat.d0).vm,(m.parts.getD w.to.toNat Dat.d0).box++[n]⟩,m.wires,m.now,m.lost⟩
 else⟨m.table,m.parts,m.wires,m.now,m.lost+1⟩
def qA9 (i:Int) (x:Emit):List Wire→Module→Module
 |[],m=>m
 |w::r,m=>qA9 i x r (if w.frm=i∧w.port=x.port then qBF m w x.n else m)
def qA6 (i:Int):List Emit→Module→Module
 |[],m=>m
 |x::r,m=>qA6 i r (qA9 i x m.wires m)
def qIf (p:Part):Part:=⟨p.code,(qAH p.code p.vm p.box 1).1,p.box.drop (qAH p.code p.vm p.box 1).2.2.1.toNat⟩
def qEp (p:Part):List Emit:=(qAH p.code p.vm p.box 1).2.1
def qAM (m:Module):Module×Int:=
 if m.now=1099511627776∨1099511627744<m.lost then(m,6)else
 if qBd m (qV m.table m.now).1=false then(⟨m.table,m.parts,m.wires,m.now+1,m.lost⟩,0)else
 (qA6 (qV m.table m.now).1 (qEp (m.parts.getD (qV m.table m.now).1.toNat Dat.d0)) ⟨m.table,m.parts.set (qV m.table m.now).1.toNat (qIf (m.parts.getD (qV m.table m.now).1.toNat Dat.d0)),m.wires,m.now+1,m.lost⟩,0)
def zM:Module:=⟨⟨0,[]⟩,[],[],0,0⟩
def qAK:Nat→Module→Module×Int
 |0,m=>(m,0)
 |n+1,m=>if(qAM m).2=0 then qAK n (qAM m).1 else(zM,(qAM m).2)
def qEm (m:Module) (n:Int):Module×Int:=if¬qAU m=0 then(zM,qAU m)else if n<0∨5000<n then(zM,1)else qAK n.toNat m
end Go.Proofs.YtiaiifcgbjlfoaaGreatDoor
