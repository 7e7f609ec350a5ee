/- The program's functions, walked: VmQ. -/
import Derived.Test.YtiaiifcgbjlfoaaGreatDoorRun
set_option linter.all false
namespace Go.Proofs.YtiaiifcgbjlfoaaGreatDoor
open Go Go.Abs
def qWJ (p:List Ins) (m:Mac):Prop:=m.at_≠p.length∧(qAd p m).code=9
instance (p:List Ins) (m:Mac):Decidable (qWJ p m):=by unfold qWJ;infer_instance
theorem qQW {p:List Ins}{m:Mac}(h:¬qWJ p m):∃m':Mac,∀l o,qAF p {m with inp:=l,out:=o}=some {m' with inp:=l,out:=o++m'.out}:=by
 have e:∀l o,qAd p {m with inp:=l,out:=o}=qAd p m:=fun _ _=>rfl
 have g:∀l o k,gR {m with inp:=l,out:=o} k=gR m k:=fun _ _ _=>rfl
 unfold qAF
 simp only[e,g]
 by_cases h0:m.at_=p.length
 ·exact⟨{m with fault:=true,out:=[]},fun l o=>by rw[if_pos h0];simp⟩
 ·have h9:¬(qAd p m).code=9:=fun q=>h ⟨h0,q⟩
  by_cases h1:(qAd p m).code=1
  ·exact⟨{m with regs:=m.regs.set (qAd p m).a.toNat (qAd p m).b,at_:=m.at_+1,out:=[]},fun l o=>by rw[if_neg h0,if_pos h1];simp⟩
  by_cases h2:(qAd p m).code=2∨(qAd p m).code=3∨(qAd p m).code=4∨(qAd p m).code=5
  ·exact⟨{m with regs:=m.regs.set (qAd p m).a.toNat (opV (qAd p m).code (gR m (qAd p m).a) (gR m (qAd p m).b)),at_:=m.at_+1,out:=[]},fun l o=>by rw[if_neg h0,if_neg h1,if_pos h2];simp⟩
  by_cases h6:(qAd p m).code=6
  ·exact⟨{m with at_:=(qAd p m).b,out:=[]},fun l o=>by rw[if_neg h0,if_neg h1,if_neg h2,if_pos h6];simp⟩
  by_cases h7:(qAd p m).code=7
  ·exact⟨{m with at_:=if gR m (qAd p m).a=0 then(qAd p m).b else m.at_+1,out:=[]},fun l o=>by rw[if_neg h0,if_neg h1,if_neg h2,if_neg h6,if_pos h7];simp⟩
  by_cases h8:(qAd p m).code=8
  ·exact⟨{m with at_:=if gR m (qAd p m).a<0 then(qAd p m).b else m.at_+1,out:=[]},fun l o=>by rw[if_neg h0,if_neg h1,if_neg h2,if_neg h6,if_neg h7,if_pos h8];simp⟩
  by_cases h10:(qAd p m).code=10
  ·exact⟨{m with out:=[⟨(qAd p m).b,gR m (qAd p m).a⟩],at_:=m.at_+1},fun l o=>by rw[if_neg h0,if_neg h1,if_neg h2,if_neg h6,if_neg h7,if_neg h8,if_neg h9,if_pos h10]⟩
  by_cases h11:(qAd p m).code=11
  ·exact⟨{m with halts:=true,out:=[]},fun l o=>by rw[if_neg h0,if_neg h1,if_neg h2,if_neg h6,if_neg h7,if_neg h8,if_neg h9,if_neg h10,if_pos h11];simp⟩
  ·exact⟨{m with at_:=m.at_+1,out:=[]},fun l o=>by rw[if_neg h0,if_neg h1,if_neg h2,if_neg h6,if_neg h7,if_neg h8,if_neg h9,if_neg h10,if_neg h11];simp⟩
theorem qTI {p:List Ins}{m:Mac}(h:qWJ p m):∃f:Int→Mac,(∀o,qAF p {m with inp:=[],out:=o}=none)∧∀x l o,qAF p {m with inp:=x::l,out:=o}=some {f x with inp:=l,out:=o}:=by
 obtain⟨h0,h9⟩:=h
 have e:∀l o,qAd p {m with inp:=l,out:=o}=qAd p m:=fun _ _=>rfl
 unfold qAF
 simp only[e]
 refine⟨fun x=>{m with regs:=m.regs.set (qAd p m).a.toNat x,at_:=m.at_+1},fun o=> ?_,fun x l o=> ?_⟩
 ·rw[if_neg h0,if_neg (by omega),if_neg (by omega),if_neg (by omega),if_neg (by omega),if_neg (by omega),if_pos h9];rfl
 ·rw[if_neg h0,if_neg (by omega),if_neg (by omega),if_neg (by omega),if_neg (by omega),if_neg (by omega),if_pos h9,if_neg (by simp)];rfl
theorem qKU {p:List Ins}:∀(f:Nat) (m:Mac) (o:List Emit),qAy p f {m with out:=o++m.out}=({(qAy p f m).1 with out:=o++(qAy p f m).1.out},(qAy p f m).2)
 |0,m,o=>rfl
 |f+1,m,o=>by
  rw[qAy,qAy]
  dsimp only
  by_cases hh:m.halts=true
  ·rw[if_pos hh,if_pos hh]
  rw[if_neg hh,if_neg hh]
  by_cases hf:m.fault=true
  ·rw[if_pos hf,if_pos hf]
  rw[if_neg hf,if_neg hf]
  by_cases hi:qWJ p m
  ·obtain⟨g,g1,g2⟩:=qTI hi
   cases hl:m.inp with
   |nil=>
    have a:=g1 m.out
    have b:=g1 (o++m.out)
    rw[←hl]at a
    have a2:qAF p m=none:=a
    rw[a2,b]
    dsimp only
    rw[←hl]
   |cons x l=>
    have a:=g2 x l m.out
    have b:=g2 x l (o++m.out)
    rw[←hl]at a
    have a2:qAF p m=some {g x with inp:=l,out:=m.out}:=a
    rw[a2,b]
    dsimp only
    have:=qKU (p:=p) f {g x with inp:=l,out:=m.out} o
    dsimp only at this
    rw[this]
  ·obtain⟨m',h'⟩:=qQW hi
   have a:=h' m.inp m.out
   have b:=h' m.inp (o++m.out)
   have a2:qAF p m=some {m' with inp:=m.inp,out:=m.out++m'.out}:=a
   rw[a2,b]
   dsimp only
   have:=qKU (p:=p) f {m' with inp:=m.inp,out:=m.out++m'.out} o
   dsimp only at this
   rw[List.append_assoc,this]
theorem qSo {p:List Ins}:∀(f:Nat) (m:Mac),0≤(qAy p f m).2∧(qAy p f m).2≤f
 |0,m=>by simp[qAy]
 |f+1,m=>by
  rw[qAy]
  split
  ·simp;omega
  ·split
   ·simp;omega
   ·split
    ·simp;omega
    ·rename_i m' _
     have:=qSo (p:=p) f m'
     dsimp only
     omega
def stuck (p:List Ins) (m:Mac):Prop:=m.halts=true∨m.fault=true∨qAF p m=none
theorem run_stuck {p:List Ins}{m:Mac}(h:stuck p m):∀f,qAy p f m=(m,0)
 |0=>rfl
 |f+1=>by
  rw[qAy]
  split
  ·rfl
  ·split
   ·rfl
   ·rcases h with h|h|h
    ·contradiction
    ·contradiction
    ·rw[h]
theorem qO7 {p:List Ins}:∀(a b:Nat) (m:Mac),qAy p (a+b) m=((qAy p b (qAy p a m).1).1,(qAy p a m).2+(qAy p b (qAy p a m).1).2)
 |0,b,m=>by simp[qAy]
 |a+1,b,m=>by
  by_cases hs:stuck p m
  ·rw[run_stuck hs,run_stuck hs];dsimp only;rw[run_stuck hs];rfl
  ·obtain⟨m',hm⟩:∃m',qAF p m=some m':=by
    cases h:qAF p m with
    |none=>exact absurd (.inr (.inr h)) hs
    |some m'=>exact⟨m',rfl⟩
   have hh:¬m.halts=true:=fun q=>hs (.inl q)
   have hf:¬m.fault=true:=fun q=>hs (.inr (.inl q))
   have e:∀k,qAy p (k+1) m=((qAy p k m').1,(qAy p k m').2+1):=fun k=>by rw[qAy,if_neg hh,if_neg hf,hm]
   rw[show a+1+b=(a+b)+1 by omega,e,e,qO7 a b m']
   dsimp only
   congr 1
   omega
theorem qIa {p:List Ins}:∀(f:Nat) (m:Mac),(qAy p f m).1.inp.length≤m.inp.length∧(qAy p f m).1.inp=m.inp.drop (m.inp.length-(qAy p f m).1.inp.length)∧(m.inp.length:Int)-(qAy p f m).1.inp.length≤(qAy p f m).2∧((qAy p f m).1.out.length:Int)-m.out.length≤(qAy p f m).2
 |0,m=>by simp[qAy]
 |f+1,m=>by
  by_cases hs:stuck p m
  ·rw[run_stuck hs];simp
  ·obtain⟨m',hm⟩:∃m',qAF p m=some m':=by
    cases h:qAF p m with
    |none=>exact absurd (.inr (.inr h)) hs
    |some m'=>exact⟨m',rfl⟩
   have hh:¬m.halts=true:=fun q=>hs (.inl q)
   have hf:¬m.fault=true:=fun q=>hs (.inr (.inl q))
   have e:qAy p (f+1) m=((qAy p f m').1,(qAy p f m').2+1):=by rw[qAy,if_neg hh,if_neg hf,hm]
   obtain⟨i1,i2,i3,i4⟩:=qIa f m'
   have k:(m'.inp=m.inp∨∃x,m.inp=x::m'.inp)∧m'.out.length≤m.out.length+1:=by
    unfold qAF at hm
    repeat' (split at hm)
    all_goals first
     |(cases hm;exact⟨.inl rfl,by simp⟩)
     |(cases hm;done)
     |(cases hm
       refine⟨.inr ?_,by simp⟩
       dsimp only
       cases hl:m.inp with
       |nil=>simp_all
       |cons x l=>exact⟨x,by simp⟩)
   rw[e]
   dsimp only
   rcases k with⟨k1|⟨x,k1⟩,k2⟩
   ·rw[k1]at i1 i2 i3
    exact⟨i1,i2,by omega,by omega⟩
   ·have kl:m.inp.length=m'.inp.length+1:=by rw[k1];simp
    refine⟨by omega, ?_,by omega,by omega⟩
    rw[i2,k1]
    have:(x::m'.inp).length-(m'.inp.drop (m'.inp.length-(qAy p f m').1.inp.length)).length=(m'.inp.length-(qAy p f m').1.inp.length)+1:=by
     simp;omega
    rw[this,List.drop_succ_cons]
end Go.Proofs.YtiaiifcgbjlfoaaGreatDoor

namespace Go.Proofs.YtiaiifcgbjlfoaaGreatDoor
open Go Go.Abs
theorem qWK (z:Int): -2147483648≤IntKind.i32.wrap z∧IntKind.i32.wrap z≤2147483647:=by
 simp only[IntKind.wrap,IntKind.bits,IntKind.signed]
 simp
 omega
theorem qWL {z:Int}(h1: -2147483648≤z) (h2:z≤2147483647):IntKind.i32.wrap z=z:=by
 simp only[IntKind.wrap,IntKind.bits,IntKind.signed]
 simp
 omega
theorem qIb (z:Int):qC5 (IntKind.i64.wrap (IntKind.i32.wrap z))=true:=by
 have h:=qWK z
 have e:IntKind.i64.wrap (IntKind.i32.wrap z)=IntKind.i32.wrap z:=wrap64_in (by unfold InR;omega)
 unfold qC5
 rw[e,qWL h.1 h.2,e]
 simp
theorem qWM (c x y:Int):qC5 (opV c x y)=true:=by
 unfold opV qWg
 split
 ·exact qIb _
 split
 ·exact qIb _
 split
 ·exact qIb _
 ·exact qIb _
def qPM (l:List Int):Prop:=∀x∈l,qC5 x=true
theorem qDt {l:List Int}:l.any (fun n=> !qC5 n)=false↔qPM l:=by
 unfold qPM
 induction l with
 |nil=>simp
 |cons x l ih=>simp[ih]
structure Inv (p:List Ins) (m:Mac):Prop where
 a0:0≤m.at_
 a1:m.at_≤p.length
 rg:m.regs.length=8
 rn:qPM m.regs
 hf:¬(m.halts=true∧m.fault=true)
 ni:qPM m.inp
theorem qIc {l:List Int}{k:Nat}{x:Int}(h:qPM l) (hx:qC5 x=true):qPM (l.set k x):=fun y hy=>by
 rcases List.mem_or_eq_of_mem_set hy with h1|h1
 ·exact h y h1
 ·rw[h1];exact hx
theorem qQX {p:List Ins}{m m':Mac}(hp:qAn p=0) (h:Inv p m) (hh:m.halts=false) (hf:m.fault=false) (hs:qAF p m=some m'):Inv p m':=by
 obtain⟨a0,a1,rg,rn,h1,ni⟩:=h
 unfold qAF at hs
 split at hs
 ·cases hs;exact⟨a0,a1,rg,rn,by simp[hh],ni⟩
 rename_i hne
 have hI:=qLW (qJJ hp (show m.at_.toNat<p.length by omega))
 have hi:(p.getD m.at_.toNat Dat.d0)=qAd p m:=rfl
 rw[hi]at hI
 split at hs
 ·rename_i c
  cases hs
  exact⟨by dsimp only;omega,by dsimp only;omega,by rw[List.length_set];exact rg,qIc rn (hI.2.2.2.2.2 c),h1,ni⟩
 split at hs
 ·cases hs
  exact⟨by dsimp only;omega,by dsimp only;omega,by rw[List.length_set];exact rg,qIc rn (qWM _ _ _),h1,ni⟩
 split at hs
 ·cases hs
  exact⟨by dsimp only;omega,by dsimp only;omega,rg,rn,h1,ni⟩
 split at hs
 ·cases hs
  exact⟨by dsimp only;split<;>omega,by dsimp only;split<;>omega,rg,rn,h1,ni⟩
 split at hs
 ·cases hs
  exact⟨by dsimp only;split<;>omega,by dsimp only;split<;>omega,rg,rn,h1,ni⟩
 split at hs
 ·split at hs
  ·cases hs
  ·rename_i hl
   cases hs
   refine⟨by dsimp only;omega,by dsimp only;omega,by rw[List.length_set];exact rg,qIc rn (ni _ ?_),h1,fun x hx=>ni x (List.mem_of_mem_drop hx)⟩
   rw[List.getD_eq_getElem?_getD,List.getElem?_eq_getElem (show 0<m.inp.length by omega)];exact List.getElem_mem _
 split at hs
 ·cases hs
  exact⟨by dsimp only;omega,by dsimp only;omega,rg,rn,h1,ni⟩
 split at hs
 ·cases hs
  exact⟨a0,a1,rg,rn,by simp[hf],ni⟩
 ·cases hs
  exact⟨by dsimp only;omega,by dsimp only;omega,rg,rn,h1,ni⟩
theorem qId {p:List Ins}(hp:qAn p=0):∀(f:Nat) (m:Mac),Inv p m→Inv p (qAy p f m).1
 |0,m,h=>h
 |f+1,m,h=>by
  rw[qAy]
  split
  ·exact h
  ·rename_i hh
   split
   ·exact h
   ·rename_i hf
    split
    ·exact h
    ·rename_i m' hs
     exact qId hp f m' (qQX hp h (by simpa using hh) (by simpa using hf) hs)
theorem qC8 {p:List Ins}{v:Vm}{inp:List Int}{fuel:Int}:qFe p v inp fuel=0↔qAn p=0∧qA1 v=0∧v.at_≤p.length∧qPM inp∧0≤fuel∧fuel≤5000∧inp.length≤5000:=by
 unfold qFe
 constructor
 ·intro h
  split at h
  ·rename_i h1
   split at h
   ·rename_i h2
    split at h
    ·cases h
    ·split at h
     ·cases h
     ·rename_i h4
      split at h
      ·rename_i h5
       split at h
       ·cases h
       ·simp[qIB]at h5
        exact⟨h1,h2,by omega,qDt.1 (by simpa using h4),h5.1,h5.2,by omega⟩
      ·cases h
   ·contradiction
  ·contradiction
 ·rintro⟨h1,h2,h3,h4,h5,h6,h7⟩
  rw[if_pos h1,if_pos h2,if_neg (by omega),qDt.2 h4,if_neg (by decide),if_pos (by simp[qIB];omega),if_neg (by omega)]
theorem qXP {p:List Ins}{v:Vm}{inp:List Int}{fuel:Int}(h:qFe p v inp fuel=0):Inv p (qCe v inp):=by
 obtain⟨h1,h2,h3,h4,h5,h6,h7⟩:=qC8.1 h
 obtain⟨r1,r2,r3,r4⟩:=qB4 h2
 have:0≤v.at_∧v.at_≤100:=by simpa[qIB]using r1
 exact⟨this.1,h3,r2,qDt.1 r4,r3,h4⟩
def qM1 (m:Mac):Vm:=⟨m.at_,m.regs,m.halts,m.fault⟩
theorem qC9 {p:List Ins}(h:qAn p=0):p.length≤100:=by
 unfold qAn at h
 split at h
 ·cases h
 ·omega
theorem qJM {p:List Ins}{m:Mac}(hp:qAn p=0) (h:Inv p m):qA1 (qM1 m)=0:=by
 have:=qC9 hp
 have h0:=h.a0
 have h1:=h.a1
 have e:qIB (qM1 m).at_ 0 100=true:=by
  show(decide (0≤m.at_)&&decide (m.at_≤100))=true
  rw[decide_eq_true h0,decide_eq_true (by omega)];rfl
 rw[qA1,if_pos ⟨e,h.rg,h.hf,qDt.2 h.rn⟩]
theorem qQY {p:List Ins}{m:Mac}{l:List Int}{f:Int}(hp:qAn p=0) (h:Inv p m) (hl:qPM l) (h1:0≤f) (h2:f≤5000) (h3:l.length≤5000):qFe p (qM1 m) l f=0:=
 qC8.2 ⟨hp,qJM hp h,h.a1,hl,h1,h2,h3⟩
theorem qDL {p:List Ins}{v:Vm}{inp:List Int}{fuel:Int}(h:qFe p v inp fuel=0):qAH p v inp fuel=(qM1 (qAy p fuel.toNat (qCe v inp)).1,(qAy p fuel.toNat (qCe v inp)).1.out,(inp.length:Int)-((qAy p fuel.toNat (qCe v inp)).1.inp.length:Int),(qAy p fuel.toNat (qCe v inp)).2,0):=by
 rw[qAH,if_pos h];rfl
theorem qWN {p:List Ins}{v:Vm}{inp:List Int}{fuel:Int}:(qAH p v inp fuel).2.2.2.2=qFe p v inp fuel:=by
 unfold qAH
 split
 ·rename_i h;exact h.symm
 ·rfl
theorem qWO {p:List Ins}{v:Vm}{inp:List Int}{fuel:Int}(h:¬qFe p v inp fuel=0):qAH p v inp fuel=(⟨0,[],false,false⟩,[],0,0,qFe p v inp fuel):=qLZ rfl h
theorem qWP {p:List Ins}(f:Nat) (m:Mac) (l:List Int):qAy p f {m with inp:=l}=({(qAy p f (qCe (qM1 m) l)).1 with out:=m.out++(qAy p f (qCe (qM1 m) l)).1.out},(qAy p f (qCe (qM1 m) l)).2):=by
 have:=qKU (p:=p) f (qCe (qM1 m) l) m.out
 have e:({qCe (qM1 m) l with out:=m.out++(qCe (qM1 m) l).out}:Mac)={m with inp:=l}:=by
  simp[qCe,qM1]
 rw[e]at this
 exact this
theorem qQZ {p:List Ins}{f:Nat}{m:Mac}:m.inp.drop ((m.inp.length:Int)-((qAy p f m).1.inp.length:Int)).toNat=(qAy p f m).1.inp:=by
 obtain⟨h1,h2,h3,h4⟩:=qIa (p:=p) f m
 rw[show((m.inp.length:Int)-((qAy p f m).1.inp.length:Int)).toNat=m.inp.length-(qAy p f m).1.inp.length by omega,←h2]
theorem qTJ {p:List Ins}{v:Vm}{inp:List Int}{a b:Int}(h:qFe p v inp a=0) (hb:0≤b) (hab:a≤5000-b):
  (0≤(qAH p v inp a).2.2.1∧(qAH p v inp a).2.2.1≤inp.length)∧(qAH p (qAH p v inp a).1 (inp.drop (qAH p v inp a).2.2.1.toNat) b).2.2.2.2=0∧(qAH p v inp (a+b)).2.2.2.2=0∧
  (qAH p (qAH p v inp a).1 (inp.drop (qAH p v inp a).2.2.1.toNat) b).1=(qAH p v inp (a+b)).1∧
  (qAH p v inp a).2.1++(qAH p (qAH p v inp a).1 (inp.drop (qAH p v inp a).2.2.1.toNat) b).2.1=(qAH p v inp (a+b)).2.1∧
  (qAH p v inp (a+b)).2.2.1=(qAH p v inp a).2.2.1+(qAH p (qAH p v inp a).1 (inp.drop (qAH p v inp a).2.2.1.toNat) b).2.2.1∧
  (qAH p v inp (a+b)).2.2.2.1=(qAH p v inp a).2.2.2.1+(qAH p (qAH p v inp a).1 (inp.drop (qAH p v inp a).2.2.1.toNat) b).2.2.2.1:=by
 obtain⟨h1,h2,h3,h4,h5,h6,h7⟩:=qC8.1 h
 have i1:=qId h1 a.toNat _ (qXP h)
 have ht:=qQZ (p:=p) (f:=a.toNat) (m:=qCe v inp)
 have hi:=qIa (p:=p) a.toNat (qCe v inp)
 have em:(qCe v inp).inp=inp:=rfl
 rw[em]at ht hi
 rw[qDL h]
 dsimp only
 rw[ht]
 have hz:qFe p v inp (a+b)=0:=qC8.2 ⟨h1,h2,h3,h4,by omega,by omega,h7⟩
 have hy:=qQY h1 i1 i1.ni hb (show b≤5000 by omega) (by omega)
 rw[qDL hz,qDL hy]
 dsimp only
 have ha:=qO7 (p:=p) a.toNat b.toNat (qCe v inp)
 rw[show a.toNat+b.toNat=(a+b).toNat by omega]at ha
 have ho:=qWP (p:=p) b.toNat (qAy p a.toNat (qCe v inp)).1 (qAy p a.toNat (qCe v inp)).1.inp
 have e:({(qAy p a.toNat (qCe v inp)).1 with inp:=(qAy p a.toNat (qCe v inp)).1.inp}:Mac)=(qAy p a.toNat (qCe v inp)).1:=rfl
 rw[e]at ho
 rw[ha,ho]
 refine⟨by omega,rfl,rfl,rfl,rfl, ?_,rfl⟩
 dsimp only
 omega
theorem qEX {p:List Ins}{v:Vm}{inp:List Int}{fuel:Int}:0≤(qAH p v inp fuel).2.2.1∧(qAH p v inp fuel).2.2.1≤inp.length∧(qAH p v inp fuel).2.2.1≤(qAH p v inp fuel).2.2.2.1∧0≤(qAH p v inp fuel).2.2.2.1∧(qAH p v inp fuel).2.2.2.1≤5000∧
  ((qAH p v inp fuel).2.1.length:Int)≤(qAH p v inp fuel).2.2.2.1∧(qAH p v inp fuel).1.regs.length≤8:=by
 by_cases h:qFe p v inp fuel=0
 ·rw[qDL h]
  obtain⟨h1,h2,h3,h4,h5,h6,h7⟩:=qC8.1 h
  obtain⟨i1,i2,i3,i4⟩:=qIa (p:=p) fuel.toNat (qCe v inp)
  obtain⟨b1,b2⟩:=qSo (p:=p) fuel.toNat (qCe v inp)
  have e1:(qCe v inp).inp=inp:=rfl
  have e2:(qCe v inp).out.length=0:=rfl
  rw[e1]at i1 i3
  rw[e2]at i4
  have r:=(qId h1 fuel.toNat _ (qXP h)).rg
  refine⟨by dsimp only;omega,by dsimp only;omega,by dsimp only;omega,by dsimp only;omega,by dsimp only;omega,by dsimp only;omega, ?_⟩
  show(qAy p fuel.toNat (qCe v inp)).1.regs.length≤8
  omega
 ·rw[qWO h];simp
end Go.Proofs.YtiaiifcgbjlfoaaGreatDoor
