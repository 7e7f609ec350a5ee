/- The program's functions, walked: VmQ. -/
import Derived.Test.YtiaiifcgbjlfoaaGreatDoorVmP
set_option linter.all false
namespace Go.Proofs.YtiaiifcgbjlfoaaGreatDoor
open Go Go.Abs
theorem w32_bd (z:Int): -2147483648≤IntKind.i32.wrap z∧IntKind.i32.wrap z≤2147483647:=by
 simp only[IntKind.wrap,IntKind.bits,IntKind.signed]
 simp
 omega
theorem w32_in {z:Int}(h1: -2147483648≤z) (h2:z≤2147483647):IntKind.i32.wrap z=z:=by
 simp only[IntKind.wrap,IntKind.bits,IntKind.signed]
 simp
 omega
theorem num_w32 (z:Int):numB (IntKind.i64.wrap (IntKind.i32.wrap z))=true:=by
 have h:=w32_bd z
 have e:IntKind.i64.wrap (IntKind.i32.wrap z)=IntKind.i32.wrap z:=wrap64_in (by unfold InR;omega)
 unfold numB
 rw[e,w32_in h.1 h.2,e]
 simp
theorem num_op (c x y:Int):numB (opV c x y)=true:=by
 unfold opV sumV
 split
 ·exact num_w32 _
 split
 ·exact num_w32 _
 split
 ·exact num_w32 _
 ·exact num_w32 _
def allN (l:List Int):Prop:=∀x∈l,numB x=true
theorem allN_iff {l:List Int}:l.any (fun n=> !numB n)=false↔allN l:=by
 unfold allN
 induction l with
 |nil=>simp
 |cons x l ih=>simp[ih]
structure Inv (p:List Ins) (m:Mac):Prop where
 a0:0≤m.at_
 a1:m.at_≤p.length
 rg:m.regs.length=8
 rn:allN m.regs
 hf:¬(m.halts=true∧m.fault=true)
 ni:allN m.inp
theorem allN_set {l:List Int}{k:Nat}{x:Int}(h:allN l) (hx:numB x=true):allN (l.set k x):=fun y hy=>by
 rcases List.mem_or_eq_of_mem_set hy with h1|h1
 ·exact h y h1
 ·rw[h1];exact hx
theorem inv_step {p:List Ins}{m m':Mac}(hp:checkP p=0) (h:Inv p m) (hh:m.halts=false) (hf:m.fault=false) (hs:stepM p m=some m'):Inv p m':=by
 obtain⟨a0,a1,rg,rn,h1,ni⟩:=h
 unfold stepM at hs
 split at hs
 ·cases hs;exact⟨a0,a1,rg,rn,by simp[hh],ni⟩
 rename_i hne
 have hI:=right_bd (right_ins hp (show m.at_.toNat<p.length by omega))
 have hi:(p.getD m.at_.toNat Dat.d0)=insAt p m:=rfl
 rw[hi]at hI
 split at hs
 ·rename_i c
  cases hs
  exact⟨by dsimp only;omega,by dsimp only;omega,by rw[List.length_set];exact rg,allN_set rn (hI.2.2.2.2.2 c),h1,ni⟩
 split at hs
 ·cases hs
  exact⟨by dsimp only;omega,by dsimp only;omega,by rw[List.length_set];exact rg,allN_set rn (num_op _ _ _),h1,ni⟩
 split at hs
 ·cases hs
  exact⟨by dsimp only;omega,by dsimp only;omega,rg,rn,h1,ni⟩
 split at hs
 ·cases hs
  exact⟨by dsimp only;split<;>omega,by dsimp only;split<;>omega,rg,rn,h1,ni⟩
 split at hs
 ·cases hs
  exact⟨by dsimp only;split<;>omega,by dsimp only;split<;>omega,rg,rn,h1,ni⟩
 split at hs
 ·split at hs
  ·cases hs
  ·rename_i hl
   cases hs
   refine⟨by dsimp only;omega,by dsimp only;omega,by rw[List.length_set];exact rg,allN_set rn (ni _ ?_),h1,fun x hx=>ni x (List.mem_of_mem_drop hx)⟩
   rw[List.getD_eq_getElem?_getD,List.getElem?_eq_getElem (show 0<m.inp.length by omega)];exact List.getElem_mem _
 split at hs
 ·cases hs
  exact⟨by dsimp only;omega,by dsimp only;omega,rg,rn,h1,ni⟩
 split at hs
 ·cases hs
  exact⟨a0,a1,rg,rn,by simp[hf],ni⟩
 ·cases hs
  exact⟨by dsimp only;omega,by dsimp only;omega,rg,rn,h1,ni⟩
theorem inv_run {p:List Ins}(hp:checkP p=0):∀(f:Nat) (m:Mac),Inv p m→Inv p (runM p f m).1
 |0,m,h=>h
 |f+1,m,h=>by
  rw[runM]
  split
  ·exact h
  ·rename_i hh
   split
   ·exact h
   ·rename_i hf
    split
    ·exact h
    ·rename_i m' hs
     exact inv_run hp f m' (inv_step hp h (by simpa using hh) (by simpa using hf) hs)
theorem err_iff {p:List Ins}{v:Vm}{inp:List Int}{fuel:Int}:errV p v inp fuel=0↔checkP p=0∧rightV v=0∧v.at_≤p.length∧allN inp∧0≤fuel∧fuel≤5000∧inp.length≤5000:=by
 unfold errV
 constructor
 ·intro h
  split at h
  ·rename_i h1
   split at h
   ·rename_i h2
    split at h
    ·cases h
    ·split at h
     ·cases h
     ·rename_i h4
      split at h
      ·rename_i h5
       split at h
       ·cases h
       ·simp[winB]at h5
        exact⟨h1,h2,by omega,allN_iff.1 (by simpa using h4),h5.1,h5.2,by omega⟩
      ·cases h
   ·contradiction
  ·contradiction
 ·rintro⟨h1,h2,h3,h4,h5,h6,h7⟩
  rw[if_pos h1,if_pos h2,if_neg (by omega),allN_iff.2 h4,if_neg (by decide),if_pos (by simp[winB];omega),if_neg (by omega)]
theorem inv0 {p:List Ins}{v:Vm}{inp:List Int}{fuel:Int}(h:errV p v inp fuel=0):Inv p (mac0 v inp):=by
 obtain⟨h1,h2,h3,h4,h5,h6,h7⟩:=err_iff.1 h
 obtain⟨r1,r2,r3,r4⟩:=rightV_ok h2
 have:0≤v.at_∧v.at_≤100:=by simpa[winB]using r1
 exact⟨this.1,h3,r2,allN_iff.1 r4,r3,h4⟩
def vmOf (m:Mac):Vm:=⟨m.at_,m.regs,m.halts,m.fault⟩
theorem check_len {p:List Ins}(h:checkP p=0):p.length≤100:=by
 unfold checkP at h
 split at h
 ·cases h
 ·omega
theorem inv_right {p:List Ins}{m:Mac}(hp:checkP p=0) (h:Inv p m):rightV (vmOf m)=0:=by
 have:=check_len hp
 have h0:=h.a0
 have h1:=h.a1
 have e:winB (vmOf m).at_ 0 100=true:=by
  show(decide (0≤m.at_)&&decide (m.at_≤100))=true
  rw[decide_eq_true h0,decide_eq_true (by omega)];rfl
 rw[rightV,if_pos ⟨e,h.rg,h.hf,allN_iff.2 h.rn⟩]
theorem err_next {p:List Ins}{m:Mac}{l:List Int}{f:Int}(hp:checkP p=0) (h:Inv p m) (hl:allN l) (h1:0≤f) (h2:f≤5000) (h3:l.length≤5000):errV p (vmOf m) l f=0:=
 err_iff.2 ⟨hp,inv_right hp h,h.a1,hl,h1,h2,h3⟩
theorem runV_of {p:List Ins}{v:Vm}{inp:List Int}{fuel:Int}(h:errV p v inp fuel=0):runV p v inp fuel=(vmOf (runM p fuel.toNat (mac0 v inp)).1,(runM p fuel.toNat (mac0 v inp)).1.out,(inp.length:Int)-((runM p fuel.toNat (mac0 v inp)).1.inp.length:Int),(runM p fuel.toNat (mac0 v inp)).2,0):=by
 rw[runV,if_pos h];rfl
theorem runV_z {p:List Ins}{v:Vm}{inp:List Int}{fuel:Int}(h:¬errV p v inp fuel=0):runV p v inp fuel=(⟨0,[],false,false⟩,[],0,0,errV p v inp fuel):=runV_err rfl h
theorem run_on {p:List Ins}(f:Nat) (m:Mac) (l:List Int):runM p f {m with inp:=l}=({(runM p f (mac0 (vmOf m) l)).1 with out:=m.out++(runM p f (mac0 (vmOf m) l)).1.out},(runM p f (mac0 (vmOf m) l)).2):=by
 have:=run_out (p:=p) f (mac0 (vmOf m) l) m.out
 have e:({mac0 (vmOf m) l with out:=m.out++(mac0 (vmOf m) l).out}:Mac)={m with inp:=l}:=by
  simp[mac0,vmOf]
 rw[e]at this
 exact this
theorem runV_bd {p:List Ins}{v:Vm}{inp:List Int}{fuel:Int}:0≤(runV p v inp fuel).2.2.1∧(runV p v inp fuel).2.2.1≤inp.length∧(runV p v inp fuel).2.2.1≤(runV p v inp fuel).2.2.2.1∧0≤(runV p v inp fuel).2.2.2.1∧(runV p v inp fuel).2.2.2.1≤5000∧
  ((runV p v inp fuel).2.1.length:Int)≤(runV p v inp fuel).2.2.2.1∧(runV p v inp fuel).1.regs.length≤8:=by
 by_cases h:errV p v inp fuel=0
 ·rw[runV_of h]
  obtain⟨h1,h2,h3,h4,h5,h6,h7⟩:=err_iff.1 h
  obtain⟨i1,i2,i3,i4⟩:=run_inp (p:=p) fuel.toNat (mac0 v inp)
  obtain⟨b1,b2⟩:=run_bd (p:=p) fuel.toNat (mac0 v inp)
  have e1:(mac0 v inp).inp=inp:=rfl
  have e2:(mac0 v inp).out.length=0:=rfl
  rw[e1]at i1 i3
  rw[e2]at i4
  have r:=(inv_run h1 fuel.toNat _ (inv0 h)).rg
  refine⟨by dsimp only;omega,by dsimp only;omega,by dsimp only;omega,by dsimp only;omega,by dsimp only;omega,by dsimp only;omega, ?_⟩
  show(runM p fuel.toNat (mac0 v inp)).1.regs.length≤8
  omega
 ·rw[runV_z h];simp
end Go.Proofs.YtiaiifcgbjlfoaaGreatDoor
