/- What comes out of a pair, handed to another gate, plain. -/
import Derived.Test.YtiaiifcgbjlfoaaGreatDoorPairM
import Derived.Test.YtiaiifcgbjlfoaaGreatDoorPgr6
set_option linter.all false
namespace Go.Proofs.YtiaiifcgbjlfoaaGreatDoor
open Go Go.Abs
def giveP (o:List Emit) (i:Nat):GateOp:=⟨false,⟨1,1,(i:Int),textV (o.getD i Dat.d0)⟩⟩
def opsV (o:List Emit) (n:Nat):List GateOp:=⟨true,⟨1,1,0,.empty⟩⟩::(List.range n).map (giveP o)
theorem ops_len {o:List Emit}{n:Nat}:(opsV o n).length=n+1:=by
 show((List.range n).map (giveP o)).length+1=n+1
 rw[List.length_map,List.length_range]
theorem ops_snoc {o:List Emit}{n:Nat}:opsV o (n+1)=opsV o n++[giveP o n]:=by
 unfold opsV
 rw[List.range_succ,List.map_append];rfl
theorem hand_fits {g:Gate}{s:ByteArray}{n:Nat}(hf:g.fence=⟨1,1⟩) (hl:g.out.length=n) (hn:n<1000) (ha:g.out.any longB=false) (hs:s.size≤1000):handG g ⟨1,1,(n:Int),s⟩=(⟨⟨1,1⟩,g.out++[s]⟩,true,0):=by
 have hp:passS (⟨1,1⟩:Fence) 1 1=(true,0):=by decide
 have hc:checkG g=0:=by
  unfold checkG
  rw[hf,if_pos (by decide),if_neg (by omega),ha,if_neg (by decide)]
 have hl2:longB s=false:=decide_eq_false (by omega)
 have hw:wrongG g ⟨1,1,(n:Int),s⟩=0:=by
  unfold wrongG
  dsimp only
  rw[hf,hp,if_pos rfl,if_pos rfl,hl2,if_neg (by decide),if_neg (by omega),if_neg (by omega),if_neg (by omega),if_neg (by omega)]
 unfold handG
 rw[show handE g ⟨1,1,(n:Int),s⟩=0 by unfold handE;rw[if_pos hc,hw],if_pos rfl]
 dsimp only
 rw[if_neg (by omega),hf]
theorem ops_run {o:List Emit}{G:List ByteArray}(hG:G<+:o.map textV) (ha:G.any longB=false) (hl:G.length≤499):∀n,n≤G.length→runG g0 (opsV o n)=⟨⟨1,1⟩,G.take n⟩
 |0,_=>by
  show runG (nextG g0 _) []=_
  rw[List.take_zero]
  decide
 |n+1,h=>by
  have ih:=ops_run hG ha hl n (by omega)
  rw[ops_snoc,runG_app,ih]
  have hx:G[n]? =some (textV (o.getD n Dat.d0)):=by
   have e:=hG.getElem (i:=n) (by omega)
   have hlen:=hG.length_le
   rw[List.length_map]at hlen
   rw[List.getElem?_eq_getElem (by omega),e,List.getElem_map,List.getD_eq_getElem?_getD,List.getElem?_eq_getElem (by omega)];rfl
  have hs:(textV (o.getD n Dat.d0)).size≤1000:=by
   have hm:=List.any_eq_false.1 ha _ (List.mem_of_getElem? hx)
   have:=of_decide_eq_false (p:=1000<(textV (o.getD n Dat.d0)).size) (by simpa[longB]using hm)
   omega
  have h1:(⟨⟨1,1⟩,G.take n⟩:Gate).out.any longB=false:=by
   rw[List.any_eq_false]at ha ⊢
   exact fun x hx=>ha x (List.mem_of_mem_take hx)
  have hh:=hand_fits (g:=⟨⟨1,1⟩,G.take n⟩) (s:=textV (o.getD n Dat.d0)) (n:=n) rfl (by show(G.take n).length=n;rw[List.length_take];omega) (by omega) h1 hs
  show nextG ⟨⟨1,1⟩,G.take n⟩ (giveP o n)=_
  have es:stepG ⟨⟨1,1⟩,G.take n⟩ (giveP o n)=(⟨⟨1,1⟩,G.take n++[textV (o.getD n Dat.d0)]⟩,true,0):=hh
  rw[nextG,es,if_pos rfl,List.take_add_one,hx];rfl
theorem pair_law {code:List Ins}{n:Int}{l:List PairAct}(h:(playA code n l).2.2=0):(playA code n l).1.gate.out.length≤100∧(playA code n l).1.gate.out.length≤(runV code v0 (playA code n l).1.log 5000).2.1.length∧
  playG (opsV (runV code v0 (playA code n l).1.log 5000).2.1 (playA code n l).1.gate.out.length)=(⟨⟨1,1⟩,(playA code n l).1.gate.out⟩,ansG g0 (opsV (runV code v0 (playA code n l).1.log 5000).2.1 (playA code n l).1.gate.out.length),0)∧
  (runV code v0 (playA code n l).1.log 5000).2.2.2.2=0:=by
 obtain⟨h1,h2,h3,h4,h5⟩:=play_ok h
 have P:=play_st h
 have hl:=P.ll
 have gl:=P.gl
 have r:=runV_of (err_v0 (fuel:=5000) h1 P.lg (by omega) (by omega) (by omega))
 obtain⟨f,v,o,q,g1,g2,g3⟩:=P.ge
 have pre:(playA code n l).1.gate.out<+:(runV code v0 (playA code n l).1.log 5000).2.1.map textV:=by
  rw[r];exact g3.trans ((at_pre g2 (by omega)).map _)
 have le:=pre.length_le
 rw[List.length_map]at le
 refine⟨by omega,le, ?_,by rw[r]⟩
 have R:=ops_run pre P.gs (by omega) _ (Nat.le_refl _)
 rw[List.take_length]at R
 rw[playG,if_neg (by rw[ops_len];omega),R]
theorem parseL_chk:∀{L:List ByteArray}{n:Int}{out:List Ins},(parseL L n out).1=[]∨checkP (parseL L n out).1=0
 |[],n,out=>by
  rw[parseL]
  split
  ·exact .inr (by assumption)
  ·exact .inl rfl
 |l::r,n,out=>by
  rw[parseL]
  split
  ·exact parseL_chk
  ·exact .inl rfl
  ·exact parseL_chk
theorem parse_le (s:ByteArray):(parseV s).1.length≤100:=by
 unfold parseV
 split
 ·exact Nat.zero_le _
 ·rcases @parseL_chk (splitV s nl1) 0 []with h|h
  ·rw[h];exact Nat.zero_le _
  ·exact check_len h
end Go.Proofs.YtiaiifcgbjlfoaaGreatDoor
