/- The program's functions, walked: VmP. -/
import Derived.Test.YtiaiifcgbjlfoaaGreatDoorRun
set_option linter.all false
namespace Go.Proofs.YtiaiifcgbjlfoaaGreatDoor
open Go Go.Abs
def isIn (p:List Ins) (m:Mac):Prop:=m.at_≠p.length∧(insAt p m).code=9
instance (p:List Ins) (m:Mac):Decidable (isIn p m):=by unfold isIn;infer_instance
theorem step_not {p:List Ins}{m:Mac}(h:¬isIn p m):∃m':Mac,∀l o,stepM p {m with inp:=l,out:=o}=some {m' with inp:=l,out:=o++m'.out}:=by
 have e:∀l o,insAt p {m with inp:=l,out:=o}=insAt p m:=fun _ _=>rfl
 have g:∀l o k,gR {m with inp:=l,out:=o} k=gR m k:=fun _ _ _=>rfl
 unfold stepM
 simp only[e,g]
 by_cases h0:m.at_=p.length
 ·exact⟨{m with fault:=true,out:=[]},fun l o=>by rw[if_pos h0];simp⟩
 ·have h9:¬(insAt p m).code=9:=fun q=>h ⟨h0,q⟩
  by_cases h1:(insAt p m).code=1
  ·exact⟨{m with regs:=m.regs.set (insAt p m).a.toNat (insAt p m).b,at_:=m.at_+1,out:=[]},fun l o=>by rw[if_neg h0,if_pos h1];simp⟩
  by_cases h2:(insAt p m).code=2∨(insAt p m).code=3∨(insAt p m).code=4∨(insAt p m).code=5
  ·exact⟨{m with regs:=m.regs.set (insAt p m).a.toNat (opV (insAt p m).code (gR m (insAt p m).a) (gR m (insAt p m).b)),at_:=m.at_+1,out:=[]},fun l o=>by rw[if_neg h0,if_neg h1,if_pos h2];simp⟩
  by_cases h6:(insAt p m).code=6
  ·exact⟨{m with at_:=(insAt p m).b,out:=[]},fun l o=>by rw[if_neg h0,if_neg h1,if_neg h2,if_pos h6];simp⟩
  by_cases h7:(insAt p m).code=7
  ·exact⟨{m with at_:=if gR m (insAt p m).a=0 then(insAt p m).b else m.at_+1,out:=[]},fun l o=>by rw[if_neg h0,if_neg h1,if_neg h2,if_neg h6,if_pos h7];simp⟩
  by_cases h8:(insAt p m).code=8
  ·exact⟨{m with at_:=if gR m (insAt p m).a<0 then(insAt p m).b else m.at_+1,out:=[]},fun l o=>by rw[if_neg h0,if_neg h1,if_neg h2,if_neg h6,if_neg h7,if_pos h8];simp⟩
  by_cases h10:(insAt p m).code=10
  ·exact⟨{m with out:=[⟨(insAt p m).b,gR m (insAt p m).a⟩],at_:=m.at_+1},fun l o=>by rw[if_neg h0,if_neg h1,if_neg h2,if_neg h6,if_neg h7,if_neg h8,if_neg h9,if_pos h10]⟩
  by_cases h11:(insAt p m).code=11
  ·exact⟨{m with halts:=true,out:=[]},fun l o=>by rw[if_neg h0,if_neg h1,if_neg h2,if_neg h6,if_neg h7,if_neg h8,if_neg h9,if_neg h10,if_pos h11];simp⟩
  ·exact⟨{m with at_:=m.at_+1,out:=[]},fun l o=>by rw[if_neg h0,if_neg h1,if_neg h2,if_neg h6,if_neg h7,if_neg h8,if_neg h9,if_neg h10,if_neg h11];simp⟩
theorem step_in {p:List Ins}{m:Mac}(h:isIn p m):∃f:Int→Mac,(∀o,stepM p {m with inp:=[],out:=o}=none)∧∀x l o,stepM p {m with inp:=x::l,out:=o}=some {f x with inp:=l,out:=o}:=by
 obtain⟨h0,h9⟩:=h
 have e:∀l o,insAt p {m with inp:=l,out:=o}=insAt p m:=fun _ _=>rfl
 unfold stepM
 simp only[e]
 refine⟨fun x=>{m with regs:=m.regs.set (insAt p m).a.toNat x,at_:=m.at_+1},fun o=> ?_,fun x l o=> ?_⟩
 ·rw[if_neg h0,if_neg (by omega),if_neg (by omega),if_neg (by omega),if_neg (by omega),if_neg (by omega),if_pos h9];rfl
 ·rw[if_neg h0,if_neg (by omega),if_neg (by omega),if_neg (by omega),if_neg (by omega),if_neg (by omega),if_pos h9,if_neg (by simp)];rfl
theorem run_out {p:List Ins}:∀(f:Nat) (m:Mac) (o:List Emit),runM p f {m with out:=o++m.out}=({(runM p f m).1 with out:=o++(runM p f m).1.out},(runM p f m).2)
 |0,m,o=>rfl
 |f+1,m,o=>by
  rw[runM,runM]
  dsimp only
  by_cases hh:m.halts=true
  ·rw[if_pos hh,if_pos hh]
  rw[if_neg hh,if_neg hh]
  by_cases hf:m.fault=true
  ·rw[if_pos hf,if_pos hf]
  rw[if_neg hf,if_neg hf]
  by_cases hi:isIn p m
  ·obtain⟨g,g1,g2⟩:=step_in hi
   cases hl:m.inp with
   |nil=>
    have a:=g1 m.out
    have b:=g1 (o++m.out)
    rw[←hl]at a
    have a2:stepM p m=none:=a
    rw[a2,b]
    dsimp only
    rw[←hl]
   |cons x l=>
    have a:=g2 x l m.out
    have b:=g2 x l (o++m.out)
    rw[←hl]at a
    have a2:stepM p m=some {g x with inp:=l,out:=m.out}:=a
    rw[a2,b]
    dsimp only
    have:=run_out (p:=p) f {g x with inp:=l,out:=m.out} o
    dsimp only at this
    rw[this]
  ·obtain⟨m',h'⟩:=step_not hi
   have a:=h' m.inp m.out
   have b:=h' m.inp (o++m.out)
   have a2:stepM p m=some {m' with inp:=m.inp,out:=m.out++m'.out}:=a
   rw[a2,b]
   dsimp only
   have:=run_out (p:=p) f {m' with inp:=m.inp,out:=m.out++m'.out} o
   dsimp only at this
   rw[List.append_assoc,this]
theorem run_bd {p:List Ins}:∀(f:Nat) (m:Mac),0≤(runM p f m).2∧(runM p f m).2≤f
 |0,m=>by simp[runM]
 |f+1,m=>by
  rw[runM]
  split
  ·simp;omega
  ·split
   ·simp;omega
   ·split
    ·simp;omega
    ·rename_i m' _
     have:=run_bd (p:=p) f m'
     dsimp only
     omega
def stuck (p:List Ins) (m:Mac):Prop:=m.halts=true∨m.fault=true∨stepM p m=none
theorem run_stuck {p:List Ins}{m:Mac}(h:stuck p m):∀f,runM p f m=(m,0)
 |0=>rfl
 |f+1=>by
  rw[runM]
  split
  ·rfl
  ·split
   ·rfl
   ·rcases h with h|h|h
    ·contradiction
    ·contradiction
    ·rw[h]
theorem run_add {p:List Ins}:∀(a b:Nat) (m:Mac),runM p (a+b) m=((runM p b (runM p a m).1).1,(runM p a m).2+(runM p b (runM p a m).1).2)
 |0,b,m=>by simp[runM]
 |a+1,b,m=>by
  by_cases hs:stuck p m
  ·rw[run_stuck hs,run_stuck hs];dsimp only;rw[run_stuck hs];rfl
  ·obtain⟨m',hm⟩:∃m',stepM p m=some m':=by
    cases h:stepM p m with
    |none=>exact absurd (.inr (.inr h)) hs
    |some m'=>exact⟨m',rfl⟩
   have hh:¬m.halts=true:=fun q=>hs (.inl q)
   have hf:¬m.fault=true:=fun q=>hs (.inr (.inl q))
   have e:∀k,runM p (k+1) m=((runM p k m').1,(runM p k m').2+1):=fun k=>by rw[runM,if_neg hh,if_neg hf,hm]
   rw[show a+1+b=(a+b)+1 by omega,e,e,run_add a b m']
   dsimp only
   congr 1
   omega
theorem run_more {p:List Ins}(more:List Int):∀(f:Nat) (m:Mac),runM p f {m with inp:=m.inp++more}=
  ((runM p (f-(runM p f m).2.toNat) {(runM p f m).1 with inp:=(runM p f m).1.inp++more}).1,(runM p f m).2+(runM p (f-(runM p f m).2.toNat) {(runM p f m).1 with inp:=(runM p f m).1.inp++more}).2)
 |0,m=>by simp[runM]
 |f+1,m=>by
  by_cases hs:stuck p m
  ·rw[run_stuck hs];simp
  ·obtain⟨m',hm⟩:∃m',stepM p m=some m':=by
    cases h:stepM p m with
    |none=>exact absurd (.inr (.inr h)) hs
    |some m'=>exact⟨m',rfl⟩
   have hh:¬m.halts=true:=fun q=>hs (.inl q)
   have hf:¬m.fault=true:=fun q=>hs (.inr (.inl q))
   have hm2:stepM p {m with inp:=m.inp++more}=some {m' with inp:=m'.inp++more}:=by
    by_cases hi:isIn p m
    ·obtain⟨g,g1,g2⟩:=step_in hi
     cases hl:m.inp with
     |nil=>
      have a:=g1 m.out
      rw[←hl]at a
      have a2:stepM p m=none:=a
      rw[a2]at hm;cases hm
     |cons x l=>
      have a:=g2 x l m.out
      have b:=g2 x (l++more) m.out
      rw[←hl]at a
      have a2:stepM p m=some {g x with inp:=l,out:=m.out}:=a
      rw[a2]at hm
      cases hm
      exact b
    ·obtain⟨m2,h'⟩:=step_not hi
     have a:=h' m.inp m.out
     have b:=h' (m.inp++more) m.out
     have a2:stepM p m=some {m2 with inp:=m.inp,out:=m.out++m2.out}:=a
     rw[a2]at hm
     cases hm
     exact b
   have e:∀k,runM p (k+1) m=((runM p k m').1,(runM p k m').2+1):=fun k=>by rw[runM,if_neg hh,if_neg hf,hm]
   have e2:runM p (f+1) {m with inp:=m.inp++more}=((runM p f {m' with inp:=m'.inp++more}).1,(runM p f {m' with inp:=m'.inp++more}).2+1):=by
    rw[runM,if_neg hh,if_neg hf,hm2]
   have hb:=run_bd (p:=p) f m'
   rw[e2,e,run_more more f m']
   dsimp only
   rw[show f+1-((runM p f m').2+1).toNat=f-(runM p f m').2.toNat by omega]
   congr 1
   omega
theorem run_inp {p:List Ins}:∀(f:Nat) (m:Mac),(runM p f m).1.inp.length≤m.inp.length∧(runM p f m).1.inp=m.inp.drop (m.inp.length-(runM p f m).1.inp.length)∧(m.inp.length:Int)-(runM p f m).1.inp.length≤(runM p f m).2∧((runM p f m).1.out.length:Int)-m.out.length≤(runM p f m).2
 |0,m=>by simp[runM]
 |f+1,m=>by
  by_cases hs:stuck p m
  ·rw[run_stuck hs];simp
  ·obtain⟨m',hm⟩:∃m',stepM p m=some m':=by
    cases h:stepM p m with
    |none=>exact absurd (.inr (.inr h)) hs
    |some m'=>exact⟨m',rfl⟩
   have hh:¬m.halts=true:=fun q=>hs (.inl q)
   have hf:¬m.fault=true:=fun q=>hs (.inr (.inl q))
   have e:runM p (f+1) m=((runM p f m').1,(runM p f m').2+1):=by rw[runM,if_neg hh,if_neg hf,hm]
   obtain⟨i1,i2,i3,i4⟩:=run_inp f m'
   have k:(m'.inp=m.inp∨∃x,m.inp=x::m'.inp)∧m'.out.length≤m.out.length+1:=by
    unfold stepM at hm
    repeat' (split at hm)
    all_goals first
     |(cases hm;exact⟨.inl rfl,by simp⟩)
     |(cases hm;done)
     |(cases hm
       refine⟨.inr ?_,by simp⟩
       dsimp only
       cases hl:m.inp with
       |nil=>simp_all
       |cons x l=>exact⟨x,by simp⟩)
   rw[e]
   dsimp only
   rcases k with⟨k1|⟨x,k1⟩,k2⟩
   ·rw[k1]at i1 i2 i3
    exact⟨i1,i2,by omega,by omega⟩
   ·have kl:m.inp.length=m'.inp.length+1:=by rw[k1];simp
    refine⟨by omega, ?_,by omega,by omega⟩
    rw[i2,k1]
    have:(x::m'.inp).length-(m'.inp.drop (m'.inp.length-(runM p f m').1.inp.length)).length=(m'.inp.length-(runM p f m').1.inp.length)+1:=by
     simp;omega
    rw[this,List.drop_succ_cons]
end Go.Proofs.YtiaiifcgbjlfoaaGreatDoor
