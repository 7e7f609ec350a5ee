/- A row that is turned in place: slices.SortFunc. -/
import Derived.Test.YtiaiifcgbjlfoaaGreatDoorAbsTurn
import Derived.Shelf.SlSortCmp.NoneTotal
set_option linter.all false
namespace Go.Abs
open Go
variable [Kd]
section
open Go.Sort Go.Proofs Go.Shelf Go.RowKit Go.Lib
variable {P:Program}{α:Type} [Dat α] [Conc α] [Inhabited α]
theorem holds_of_row {w:World}{blk:Nat}{d:List α}(hr:RowIs α w blk d):HoldsK (Conc.conc (α:=α)) (Dat.sz α) w blk 0 d.toArray∧blk<w.heap.size:=by
 obtain⟨cur,t,hc,hl,hg⟩:=hr
 refine⟨fun k hk=> ?_,(Array.getElem?_eq_some_iff.1 hc).1⟩
 rw[size_flatK]at hk
 have hk':k<d.length*Dat.sz α:=by simpa using hk
 have hs0:0<Dat.sz α:=by
  rcases Nat.eq_zero_or_pos (Dat.sz α)with h|h
  ·rw[h]at hk';simp at hk'
  ·exact h
 have e1:k/Dat.sz α*Dat.sz α+k%Dat.sz α=k:=by rw[Nat.mul_comm];exact Nat.div_add_mod k _
 have h1:k/Dat.sz α<d.length:=Nat.div_lt_of_lt_mul (by rw[Nat.mul_comm];exact hk')
 have h2:=Nat.mod_lt k hs0
 have h3:=hg _ _ h1 h2
 rw[e1]at h3
 rw[get_flatK _ _ _ _ hk]
 have h4:d.toArray[k/Dat.sz α]! =d.getD (k/Dat.sz α) Dat.d0:=arr_ht _ _ (by simpa using h1)
 rw[h4]
 have h5:(Conc.conc (d.getD (k/Dat.sz α) Dat.d0))[k%Dat.sz α]! =(Conc.conc (d.getD (k/Dat.sz α) Dat.d0)).getD (k%Dat.sz α) undef:=by
  generalize d.getD (k/Dat.sz α) Dat.d0=y
  have hl:k%Dat.sz α<(Conc.conc y).length:=by rw[Conc.hlen];exact h2
  rw[getElem!_pos (Conc.conc y) _ hl,List.getD_eq_getElem?_getD,List.getElem?_eq_getElem hl]
  rfl
 rw[h5,←h3]
 have hkl:k<cur.size:=by omega
 refine⟨?_, ?_⟩
 ·simp only[World.cell?,hc,Nat.zero_add]
  rw[Array.getD_eq_getD_getElem?,Array.getElem?_eq_getElem hkl]
  rfl
 ·simp[World.frozen?,hc]
def Sorts (cf:α→α→Int) (d d':List α):Prop:=d'.Perm d∧∀i j,i<j→j<d.length→¬cf (d'.getD j Dat.d0) (d'.getD i Dat.d0)<0
def oneFn (g:FuncId):List AV→Bool
 |[.fn g' []]=>Nat.beq g g'
 |_=>false
theorem sortFunc_ok {ρ:Ren}(L:SlLaysF0.n6 P ρ) (aE:∀w,(isAgg (ρ.t 24)).run P w= .ok true w) (zE:∀w,(Go.sizeOf (ρ.t 24)).run P w= .ok (Dat.sz α) w) (cf:α→α→Int) (hO:SWO (ltOf cf)) (g:Nat)
  (eg:∀args w,(callFunc g args).run P w= .ok (.enter g args) w) (hcmp:∀blk size w,CmpLays P g #[] (Conc.conc (α:=α)) (Dat.sz α) cf blk 0 size w) {A:List AV}{H:Hp}{K:Kont}(hv:turnCon α (Sorts cf) (oneFn g) A H K):FnOk P (ρ.f 6) A H K:=by
 have one:∀(rest:List AV) (vs:Array Value) (w:World) (M:Nat→Prop) (β:Nat→Option Nat) (cp:Nat→Nat),oneFn g rest=true→RepL w M β cp rest vs.toList→vs= #[.func (.func g) #[] #[]]:=by
  intro rest vs w M β cp hrest hrep
  unfold oneFn at hrest
  split at hrest
  ·rename_i g'
   have hg:=beq_iff.1 hrest
   subst hg
   have h1:=hrep.1
   have h2:=hrep.2 0 _ rfl
   match hvl:vs.toList with
   |[v]=>
    rw[hvl]at h2
    obtain⟨cs,h3,h4⟩:=rep_fn h2
    have:cs= #[]:=by apply Array.toList_inj.1;have:=h4.1;simpa using this
    subst this
    apply Array.toList_inj.1
    rw[hvl]
    rw[fnV_nil]at h3
    simpa using h3
   |[]=>rw[hvl]at h1;simp at h1
   |_::_::_=>rw[hvl]at h1;simp at h1
  ·cases hrest
 refine turnCon_ok (fun d d' h=>h.1.length_eq) ⟨List.Perm.refl _,fun i j _ hj=>by simp at hj⟩ (fun rest vs w M β cp hrest hrep p cap=> ?_) (fun rest vs w M β cp hrest hrep blk cap d hrow hlen=> ?_) hv
 ·have:=one rest vs w M β cp hrest hrep
  subst this
  exact AnyF.slices_SortFunc_none L p cap _ w
 ·have:=one rest vs w M β cp hrest hrep
  subst this
  ·obtain⟨hH,hblk⟩:=holds_of_row hrow
   have:=AnyQ.slices_SortFunc L (Dat.sz α) aE zE (Conc.conc (α:=α)) Conc.hlen Conc.one cf hO g #[] blk 0 cap d.toArray w eg (hcmp blk _ w) hH hblk (by simpa using hlen)
   refine this.mono ?_
   rintro e w' ⟨rfl,d',n,os,hp,hs,rfl⟩
   obtain⟨p1,p2,p3⟩:=hp
   have p1:d'.size=d.length:=by simpa using p1
   have hperm:d'.toList.Perm d:=by
    have e1:(d'.extract 0 d.toArray.size).toList=d'.toList:=by simp[←p1]
    have e2:(d.toArray.extract 0 d.toArray.size).toList=d:=by simp
    rw[e1,e2]at p3
    exact p3
   refine⟨rfl,d'.toList,⟨hperm,fun i j hij hj=> ?_⟩, ?_⟩
   ·have:=hs i j (Nat.zero_le _) hij (by simpa using hj)
    unfold ltOf at this
    rw[arr_ht d' Dat.d0 (by omega),arr_ht d' Dat.d0 (by omega)]at this
    exact of_decide_eq_false this
   ·refine turns_mod hblk (by rw[size_flatK];simp) fun i j hi hj=> ?_
    have hi:i<d'.size:=by simpa using hi
    have hlt:i*Dat.sz α+j<d'.size*Dat.sz α:=by
     have:=Nat.mul_le_mul_right (Dat.sz α) (show i+1≤d'.size by omega)
     rw[Nat.succ_mul]at this
     omega
    rw[get_flatK _ _ _ _ hlt]
    have e1:(i*Dat.sz α+j)/Dat.sz α=i:=by rw[Nat.add_comm,Nat.add_mul_div_right _ _ (by omega),Nat.div_eq_of_lt hj];omega
    have e2:(i*Dat.sz α+j)%Dat.sz α=j:=by rw[Nat.mul_comm,Nat.mul_add_mod,Nat.mod_eq_of_lt hj]
    rw[e1,e2,arr_ht d' Dat.d0 hi]
    generalize d'.toList.getD i Dat.d0=y
    have hl:j<(Conc.conc y).length:=by rw[Conc.hlen];exact hj
    rw[getElem!_pos (Conc.conc y) _ hl,List.getD_eq_getElem?_getD,List.getElem?_eq_getElem hl]
    rfl
end
end Go.Abs
