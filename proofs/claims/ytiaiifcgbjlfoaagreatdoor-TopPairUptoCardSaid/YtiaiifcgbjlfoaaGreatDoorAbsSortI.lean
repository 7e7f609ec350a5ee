/- A row of numbers that is turned in place: slices.Sort. -/
import Derived.Test.YtiaiifcgbjlfoaaGreatDoorAbsTurn
import Derived.Shelf.Sort.Plain
import Derived.Shelf.Slices.In.SortNone
set_option linter.all false
namespace Go.Abs
open Go Go.Sort Go.Proofs Go.Shelf Go.RowKit Go.Lib
variable [Kd]
variable {P:Program}
def sortL (d:List Int):List Int:=d.mergeSort fun x y=>decide (x≤y)
def noRest:List AV→Bool|[]=>true|_=>false
theorem putCells_id (d:Array Int) (c:Array Value):putCells (Value.int .i64) 0 d c=putCells id 0 (d.map (Value.int .i64)) c:=by
 unfold putCells
 apply Array.ext
 ·simp
 ·intro k h1 h2
  simp only[Array.getElem_mapIdx,Array.size_map,Nat.zero_le,true_and,Nat.zero_add,Nat.sub_zero,id]
  split
  ·rename_i h
   rw[getElem!_pos d k h,getElem!_pos _ k (by simpa using h),Array.getElem_map]
  ·rfl
theorem putRow_id (w:World) (blk:Nat) (d:Array Int):putRow (Value.int .i64) w blk 0 d=putRow id w blk 0 (d.map (Value.int .i64)):=by
 unfold putRow
 exact mapBlock_congr _ _ _ _ fun c _ _ _=>putCells_id d c
theorem sortInt_ok {ρ:Ren}(L:Lays.n189 P ρ) {A:List AV}{H:Hp}{K:Kont}(hv:turnCon Int (fun d d'=>d'=sortL d) noRest A H K):FnOk P (ρ.f 189) A H K:=by
 have none:∀(rest:List AV) (vs:Array Value) (w:World) (M:Nat→Prop) (β:Nat→Option Nat) (cp:Nat→Nat),noRest rest=true→RepL w M β cp rest vs.toList→vs= #[]:=by
  intro rest vs w M β cp hrest hrep
  unfold noRest at hrest
  split at hrest
  ·have:=hrep.1
   apply Array.toList_inj.1
   simpa using this
  ·cases hrest
 refine turnCon_ok (fun d d' h=>by rw[h];exact List.length_mergeSort _) (by simp[sortL]) (fun rest vs w M β cp hrest hrep p cap=> ?_) (fun rest vs w M β cp hrest hrep blk cap d hrow hlen=> ?_) hv
 ·have:=none rest vs w M β cp hrest hrep
  subst this
  exact Any.slices_Sort_int_none L p cap w
 ·have:=none rest vs w M β cp hrest hrep
  subst this
  have hblk:blk<w.heap.size:=by obtain⟨cur,t,hc,_⟩:=hrow;exact(Array.getElem?_eq_some_iff.1 hc).1
  have hH':Holds (Value.int .i64) w blk 0 d.toArray:=by
   obtain⟨cur,t,hc,hle,hg⟩:=hrow
   have hsz:Dat.sz Int=1:=rfl
   intro j hj
   have hj:j<d.length:=by simpa using hj
   have h1:=hg j 0 hj (by rw[hsz];decide)
   rw[hsz,Nat.mul_one,Nat.add_zero]at h1
   rw[hsz,Nat.mul_one]at hle
   have hk:j<cur.size:=by omega
   have h4:d.toArray[j]! =d.getD j Dat.d0:=arr_ht _ _ (by simpa using hj)
   rw[h4]
   have h5:(Conc.conc (d.getD j Dat.d0)).getD 0 undef=Value.int .i64 (d.getD j Dat.d0):=rfl
   rw[h5]at h1
   refine⟨?_, ?_⟩
   ·simp only[World.cell?,hc,Nat.zero_add]
    rw[Array.getElem?_eq_getElem hk]
    rw[Array.getD_eq_getD_getElem?,Array.getElem?_eq_getElem hk]at h1
    simpa using h1
   ·simp[World.frozen?,hc]
  refine(Any.slices_Sort_int L blk 0 cap d w hH' hblk hlen).mono ?_
  rintro e w' ⟨rfl,n,os,rfl⟩
  refine⟨rfl,sortL d,rfl, ?_⟩
  have hl:(sortL d).length=d.length:=List.length_mergeSort _
  rw[putRow_id]
  refine turns_mod hblk (by simp[show Dat.sz Int=1 from rfl];first|exact hl|exact hl.symm) fun i j hi hj=> ?_
  have hsz:Dat.sz Int=1:=rfl
  have hj0:j=0:=by omega
  subst hj0
  have hi':i<(sortL d).length:=hi
  rw[hsz,Nat.mul_one,Nat.add_zero]
  rw[getElem!_pos _ i (by simp;omega),Array.getElem_map]
  show Value.int .i64 _=Value.int .i64 _
  congr 1
  rw[List.getElem_toArray,List.getD_eq_getElem?_getD,List.getElem?_eq_getElem hi']
  rfl
end Go.Abs
