/- The functions of package table that only read, walked. -/
import Derived.Test.YtiaiifcgbjlfoaaGreatDoorSpan
import Derived.Test.YtiaiifcgbjlfoaaGreatDoorRun
set_option linter.all false
namespace Go.Proofs.YtiaiifcgbjlfoaaGreatDoor
open Go Go.Abs
def qSj (f e:Int) (w:Window):Bool:=decide (0≤w.owner∧w.owner<16∧e≤w.frm∧w.frm≤f∧1≤w.long∧w.long≤f-w.frm)
def okW (f:Int):Int→List Window→Bool
 |_,[]=>true
 |e,w::r=>qSj f e w&&okW f (w.frm+w.long) r
def qBJ (t:Table):Int:=if qCw t.frame=true then(if 200<t.windows.length then 2 else if okW t.frame 0 t.windows=true then 0 else 4)else 1
structure RightT (t:Table):Prop where
 s1:1≤t.frame
 s2:t.frame≤1000000
 len:t.windows.length≤200
 ok:okW t.frame 0 t.windows=true
theorem qBA {t:Table}:qBJ t=0↔RightT t:=by
 unfold qBJ
 by_cases h1:qCw t.frame=true
 ·have hb:1≤t.frame∧t.frame≤1000000:=by simpa[qCw]using h1
  rw[if_pos h1]
  by_cases h2:200<t.windows.length
  ·rw[if_pos h2];exact⟨fun h=>absurd h (by decide),fun h=>absurd h.len (by omega)⟩
  ·rw[if_neg h2]
   by_cases h3:okW t.frame 0 t.windows=true
   ·rw[if_pos h3];exact⟨fun _=>⟨hb.1,hb.2,by omega,h3⟩,fun _=>rfl⟩
   ·rw[if_neg h3];exact⟨fun h=>absurd h (by decide),fun h=>absurd h.ok h3⟩
 ·rw[if_neg h1]
  exact⟨fun h=>absurd h (by decide),fun h=>absurd (show qCw t.frame=true by have a:=h.s1;have b:=h.s2;simp[qCw,a,b]) h1⟩
theorem qCg {f e:Int}{w:Window}:qSj f e w=true↔(0≤w.owner∧w.owner<16∧e≤w.frm∧w.frm≤f∧1≤w.long∧w.long≤f-w.frm):=by simp[qSj]
theorem qL0 {f e:Int}{l:List Window}{k:Nat}(hk:k<l.length):okW f e (l.drop k)=(qSj f e (l.getD k Dat.d0)&&okW f ((l.getD k Dat.d0).frm+(l.getD k Dat.d0).long) (l.drop (k+1))):=by
 rw[qX Dat.d0 hk,okW]
theorem qKR {f:Int}:∀{l:List Window}{e:Int},0≤e→okW f e l=true→∀w∈l,qSj f e w=true
 |[],_,_,_=>by simp
 |x::r,e,he,h=>by
  rw[okW,Bool.and_eq_true]at h
  have hx:=qCg.1 h.1
  intro w hw
  rcases List.mem_cons.1 hw with rfl|hw
  ·exact h.1
  ·have:=qCg.1 (qKR (by omega) h.2 w hw)
   exact qCg.2 (by omega)
theorem qO3 {t:Table}(h:RightT t) {k:Nat}(hk:k<t.windows.length):0≤(t.windows.getD k Dat.d0).owner∧(t.windows.getD k Dat.d0).owner<16∧0≤(t.windows.getD k Dat.d0).frm∧(t.windows.getD k Dat.d0).frm≤t.frame∧1≤(t.windows.getD k Dat.d0).long∧(t.windows.getD k Dat.d0).long≤t.frame-(t.windows.getD k Dat.d0).frm:=by
 refine qCg.1 (qKR (Int.le_refl 0) h.ok _ ?_)
 rw[List.getD_eq_getElem?_getD,List.getElem?_eq_getElem hk]
 exact List.getElem_mem hk
def atW (f x:Int):List Window→Int×Int
 |[]=>(-1,f)
 |w::r=>if x<w.frm then(-1,w.frm)else if x<w.frm+w.long then(w.owner,w.frm+w.long)else atW f x r
def atV (t:Table) (x:Int):Int×Int:=atW t.frame x t.windows
theorem qKS {f x:Int}{l:List Window}{k:Nat}(hk:k<l.length):atW f x (l.drop k)=if x<(l.getD k Dat.d0).frm then(-1,(l.getD k Dat.d0).frm)else if x<(l.getD k Dat.d0).frm+(l.getD k Dat.d0).long then((l.getD k Dat.d0).owner,(l.getD k Dat.d0).frm+(l.getD k Dat.d0).long)else atW f x (l.drop (k+1)):=by
 rw[qX Dat.d0 hk,atW]
def ownB (n:Int):Bool:=decide (0≤n∧n<16)
def qSk (r:Th (Bool)):AV:= .b fun _=>(r ())
def qL1:Det:=fun A=>match A with
 |[.i .i64 n]=>some (fun _=>True,qSk fun _=>ownB (n ()))
 |_=>none
set_option maxRecDepth 100000 in
set_option maxHeartbeats 4000000 in
theorem qTD (n:Int):qO Tryz.prog 26 [.i .i64 fun _=>n] [] (qAf (qSk fun _=>ownB n) []):=by
 refine qAe qI zl qP qD (keep:=[0,2]) Tryz.func26 rfl ?_
 cbv
 repeat' first|(refine Stp.mk ?_;cbv)|(refine Gen.mk fun r hr=> ?_;(try simp only[Dat.ok,Dat.dec,Leaf.ok,Leaf.val,Z0,Z1,Z2,Z3,Z4,Z5,Z6,Z7,Z8,Z9,Z10,Z11,Z12,Z13,Z14,qA,qB]at hr);cbv)|exact trivial|rfl|refine Both.mk ?_ ?_|(refine Imp.mk fun h=> ?_;(try dsimp only at h);(try simp only[nc,Int.toNat_natCast,ne_eq,zz]at h);(try simp only[nc]at h))|refine Ob.mk ?_ ?_|refine Chk.mk (by kernel_rfl) ?_|refine Eq'.mk ?_|(refine AllN.mk fun i hi=> ?_;cbv)|(refine AllC.mk fun c hc hcm=> ?_;(try dsimp only at hc);cbv)|(refine AllS.mk fun r hr=> ?_;(try simp only[Dat.ok,Dat.dec,Leaf.ok,Leaf.val,Z0,Z1,Z2,Z3,Z4,Z5,Z6,Z7,Z8,Z9,Z10,Z11,Z12,Z13,Z14,qA]at hr);cbv)
 all_goals ((try dsimp only at*);(try simp only[nc,Int.toNat_natCast,ne_eq,zz]at*);(try simp only[nc]at*))
 all_goals simp_all [ownB]
 all_goals omega
theorem qO4:qBf Tryz.prog 26 (qM qL1):=qS fun A p r h hp0=>by
 unfold qL1 at h
 split at h
 ·rename_i n
  cases h
  exact⟨rfl,qO.pre (A':=[.i .i64 fun _=>n ()]) (qTD (n ())) (.mk (.mk (.mk rfl) (.mk rfl)) (trivial))⟩
 ·cases h
def qSl (r:Th (Bool)):AV:= .b fun _=>(r ())
def qO5:Det:=fun A=>match A with
 |[.i .i64 n]=>some (fun _=>True,qSl fun _=>qCw (n ()))
 |_=>none
set_option maxRecDepth 100000 in
set_option maxHeartbeats 4000000 in
theorem qTE (n:Int):qO Tryz.prog 62 [.i .i64 fun _=>n] [] (qAf (qSl fun _=>qCw n) []):=by
 refine qAe qI zl qP qD (keep:=[0,2]) Tryz.func62 rfl ?_
 cbv
 repeat' first|(refine Stp.mk ?_;cbv)|(refine Gen.mk fun r hr=> ?_;(try simp only[Dat.ok,Dat.dec,Leaf.ok,Leaf.val,Z0,Z1,Z2,Z3,Z4,Z5,Z6,Z7,Z8,Z9,Z10,Z11,Z12,Z13,Z14,qA,qB]at hr);cbv)|exact trivial|rfl|refine Both.mk ?_ ?_|(refine Imp.mk fun h=> ?_;(try dsimp only at h);(try simp only[nc,Int.toNat_natCast,ne_eq,zz]at h);(try simp only[nc]at h))|refine Ob.mk ?_ ?_|refine Chk.mk (by kernel_rfl) ?_|refine Eq'.mk ?_|(refine AllN.mk fun i hi=> ?_;cbv)|(refine AllC.mk fun c hc hcm=> ?_;(try dsimp only at hc);cbv)|(refine AllS.mk fun r hr=> ?_;(try simp only[Dat.ok,Dat.dec,Leaf.ok,Leaf.val,Z0,Z1,Z2,Z3,Z4,Z5,Z6,Z7,Z8,Z9,Z10,Z11,Z12,Z13,Z14,qA]at hr);cbv)
 all_goals ((try dsimp only at*);(try simp only[nc,Int.toNat_natCast,ne_eq,zz]at*);(try simp only[nc]at*))
 all_goals simp_all [qCw]
 all_goals omega
theorem qTF:qBf Tryz.prog 62 (qM qO5):=qS fun A p r h hp0=>by
 unfold qO5 at h
 split at h
 ·rename_i n
  cases h
  exact⟨rfl,qO.pre (A':=[.i .i64 fun _=>n ()]) (qTE (n ())) (.mk (.mk (.mk rfl) (.mk rfl)) (trivial))⟩
 ·cases h
structure WcX (t:Table) where
 k:Nat
 e:Int
 hk:k≤t.windows.length
 e0:0≤e
 e1:e≤t.frame
 hr:okW t.frame 0 t.windows=okW t.frame e (t.windows.drop k)
def qL2 (r:Th (Int)):AV:= .i .i64 fun _=>(r ())
def qSm (t:Table):Prop:=t.windows.length≤9223372036854775807
def qJK:Det:=fun A=>match A with
 |[.agg t]=>some (fun _=>Dat.ok Table t∧qSm (Dat.dec t),qL2 fun _=>qBJ (Dat.dec t))
 |_=>none
noncomputable def cWc:FuncId→Con:=fun f=>match f with
 |26=>qH (qM qL1)
 |62=>qH (qM qO5)
 |_=>fun _ _ _=>Bad 1001
theorem qWE:qY Tryz.prog cWc:=fun f A H K h=>by
 unfold cWc at h
 split at h
 ·exact⟨⟨Tryz.f26,Tryz.func26,by kernel_rfl,by kernel_rfl⟩,qE qO4 h⟩
 ·exact⟨⟨Tryz.f62,Tryz.func62,by kernel_rfl,by kernel_rfl⟩,qE qTF h⟩
 ·cases h
set_option maxRecDepth 100000 in
set_option maxHeartbeats 4000000 in
theorem qTG (t:Table) (hp:qSm t):qO Tryz.prog 25 [.agg (Dat.enc fun _=>t)] [] (qAf (qL2 fun _=>qBJ t) []):=by
 refine qAe qI zl qWE qD (keep:=[0,1,2,3,5,9,13,15,16,17,18,52]) Tryz.func25 rfl ?_
 have hp':t.windows.length≤9223372036854775807:=hp
 have fin:∀e H kl,qBJ t=e→qAf (qL2 fun _=>qBJ t) [] (.i .i64 fun _=>e) H kl:=by
  rintro e H kl rfl
  cbv
  repeat' first|(refine Stp.mk ?_;cbv)|(refine Gen.mk fun r hr=> ?_;(try simp only[Dat.ok,Dat.dec,Leaf.ok,Leaf.val,Z0,Z1,Z2,Z3,Z4,Z5,Z6,Z7,Z8,Z9,Z10,Z11,Z12,Z13,Z14,qA,qB]at hr);cbv)|exact trivial|rfl|refine Both.mk ?_ ?_|(refine Imp.mk fun h=> ?_;(try dsimp only at h);(try simp only[nc,Int.toNat_natCast,ne_eq,zz]at h);(try simp only[nc]at h))|refine Ob.mk ?_ ?_|refine Chk.mk (by kernel_rfl) ?_|refine Eq'.mk ?_|(refine AllN.mk fun i hi=> ?_;cbv)|(refine AllC.mk fun c hc hcm=> ?_;(try dsimp only at hc);cbv)|(refine AllS.mk fun r hr=> ?_;(try simp only[Dat.ok,Dat.dec,Leaf.ok,Leaf.val,Z0,Z1,Z2,Z3,Z4,Z5,Z6,Z7,Z8,Z9,Z10,Z11,Z12,Z13,Z14,qA]at hr);cbv)
 generalize qAf (qL2 fun _=>qBJ t) []=K at fin ⊢
 cbv
 repeat' first|(show Stp _;exfalso;first|omega|(exact h ‹_›)|(exact absurd ‹_› h)|(exact Bool.false_ne_true (h.symm.trans (show _=true by assumption))))|(refine Stp.mk ?_;cbv)|(refine Gen.mk fun r hr=> ?_;(try simp only[Dat.ok,Dat.dec,Leaf.ok,Leaf.val,Z0,Z1,Z2,Z3,Z4,Z5,Z6,Z7,Z8,Z9,Z10,Z11,Z12,Z13,Z14,qA,qB]at hr);cbv)|exact trivial|rfl|refine Both.mk ?_ ?_|(refine Imp.mk fun h=> ?_;(try dsimp only at h);(try simp only[nc,Int.toNat_natCast,ne_eq,zz]at h);(try simp only[nc]at h))|refine Ob.mk ?_ ?_|refine Chk.mk (by kernel_rfl) ?_|refine Eq'.mk ?_|(refine AllN.mk fun i hi=> ?_;cbv)|(refine AllC.mk fun c hc hcm=> ?_;(try dsimp only at hc);cbv)|(refine AllS.mk fun r hr=> ?_;(try simp only[Dat.ok,Dat.dec,Leaf.ok,Leaf.val,Z0,Z1,Z2,Z3,Z4,Z5,Z6,Z7,Z8,Z9,Z10,Z11,Z12,Z13,Z14,qA]at hr);cbv)
 all_goals ((try dsimp only at*);(try simp only[nc,Int.toNat_natCast,ne_eq,zz]at*);(try simp only[nc]at*))
 all_goals first
  |(refine fin _ _ _ ?_
    first
     |(rw[qBJ,if_neg (by simp_all)];done)
     |(rw[qBJ,if_pos (by simp_all),if_pos (by omega)];done))
  |skip
 all_goals have hs:qCw t.frame=true:=by assumption
 have hs2:1≤t.frame∧t.frame≤1000000:=by simpa[qCw]using hs
 refine LoopVC.frame [2,3,5,17,18,52] (WcX t) (fun x=>[(17,.i .i64 fun _=>x.k),(3,.i .i64 fun _=>x.e)]) (fun _=>[]) [] (fun x=>t.windows.length-x.k) ⟨0,0,Nat.zero_le _,Int.le_refl _,by omega,by simp⟩ rfl (fun _=>rfl) ?_ ?_ fun⟨k,e,hk,e0,e1,hr⟩=> ?_
 iterate 2
  ·cbv
   repeat' first|(refine Stp.mk ?_;cbv)|(refine Gen.mk fun r hr=> ?_;(try simp only[Dat.ok,Dat.dec,Leaf.ok,Leaf.val,Z0,Z1,Z2,Z3,Z4,Z5,Z6,Z7,Z8,Z9,Z10,Z11,Z12,Z13,Z14,qA,qB]at hr);cbv)|exact trivial|rfl|refine Both.mk ?_ ?_|(refine Imp.mk fun h=> ?_;(try dsimp only at h);(try simp only[nc,Int.toNat_natCast,ne_eq,zz]at h);(try simp only[nc]at h))|refine Ob.mk ?_ ?_|refine Chk.mk (by kernel_rfl) ?_|refine Eq'.mk ?_|(refine AllN.mk fun i hi=> ?_;cbv)|(refine AllC.mk fun c hc hcm=> ?_;(try dsimp only at hc);cbv)|(refine AllS.mk fun r hr=> ?_;(try simp only[Dat.ok,Dat.dec,Leaf.ok,Leaf.val,Z0,Z1,Z2,Z3,Z4,Z5,Z6,Z7,Z8,Z9,Z10,Z11,Z12,Z13,Z14,qA]at hr);cbv)
 ·cbv
  repeat' first|(show Stp _;exfalso;first|omega|(exact h ‹_›)|(exact absurd ‹_› h)|(exact Bool.false_ne_true (h.symm.trans (show _=true by assumption))))|(refine Stp.mk ?_;cbv)|(refine Gen.mk fun r hr=> ?_;(try simp only[Dat.ok,Dat.dec,Leaf.ok,Leaf.val,Z0,Z1,Z2,Z3,Z4,Z5,Z6,Z7,Z8,Z9,Z10,Z11,Z12,Z13,Z14,qA,qB]at hr);cbv)|exact trivial|rfl|refine Both.mk ?_ ?_|(refine Imp.mk fun h=> ?_;(try dsimp only at h);(try simp only[nc,Int.toNat_natCast,ne_eq,zz]at h);(try simp only[nc]at h))|refine Ob.mk ?_ ?_|refine Chk.mk (by kernel_rfl) ?_|refine Eq'.mk ?_|(refine AllN.mk fun i hi=> ?_;cbv)|(refine AllC.mk fun c hc hcm=> ?_;(try dsimp only at hc);cbv)|(refine AllS.mk fun r hr=> ?_;(try simp only[Dat.ok,Dat.dec,Leaf.ok,Leaf.val,Z0,Z1,Z2,Z3,Z4,Z5,Z6,Z7,Z8,Z9,Z10,Z11,Z12,Z13,Z14,qA]at hr);cbv)
  all_goals ((try dsimp only at*);(try simp only[nc,Int.toNat_natCast,ne_eq,zz]at*);(try simp only[nc]at*))
  all_goals try rw[nc]at*
  all_goals try (have how:=(by assumption:ownB (t.windows.getD k Dat.d0).owner=true);simp only[ownB,decide_eq_true_eq]at how)
  all_goals first
   |omega
   |exact⟨by omega,by omega⟩
   |(unfold InR;omega)
   |(have hk2:k<t.windows.length:=by omega
     have hw:qSj t.frame e (t.windows.getD k Dat.d0)=true:=qCg.2 (by omega)
     refine⟨⟨k+1,(t.windows.getD k Dat.d0).frm+(t.windows.getD k Dat.d0).long,by omega,by omega,by omega,by rw[hr,qL0 hk2,hw,Bool.true_and]⟩, ?_, ?_,rfl,by(try dsimp only);omega⟩
     ·cbv
      repeat' first|(refine Stp.mk ?_;cbv)|(refine Gen.mk fun r hr=> ?_;(try simp only[Dat.ok,Dat.dec,Leaf.ok,Leaf.val,Z0,Z1,Z2,Z3,Z4,Z5,Z6,Z7,Z8,Z9,Z10,Z11,Z12,Z13,Z14,qA,qB]at hr);cbv)|exact trivial|rfl|refine Both.mk ?_ ?_|(refine Imp.mk fun h=> ?_;(try dsimp only at h);(try simp only[nc,Int.toNat_natCast,ne_eq,zz]at h);(try simp only[nc]at h))|refine Ob.mk ?_ ?_|refine Chk.mk (by kernel_rfl) ?_|refine Eq'.mk ?_|(refine AllN.mk fun i hi=> ?_;cbv)|(refine AllC.mk fun c hc hcm=> ?_;(try dsimp only at hc);cbv)|(refine AllS.mk fun r hr=> ?_;(try simp only[Dat.ok,Dat.dec,Leaf.ok,Leaf.val,Z0,Z1,Z2,Z3,Z4,Z5,Z6,Z7,Z8,Z9,Z10,Z11,Z12,Z13,Z14,qA]at hr);cbv)
     ·cbv
      repeat' first|(refine Stp.mk ?_;cbv)|(refine Gen.mk fun r hr=> ?_;(try simp only[Dat.ok,Dat.dec,Leaf.ok,Leaf.val,Z0,Z1,Z2,Z3,Z4,Z5,Z6,Z7,Z8,Z9,Z10,Z11,Z12,Z13,Z14,qA,qB]at hr);cbv)|exact trivial|rfl|refine Both.mk ?_ ?_|(refine Imp.mk fun h=> ?_;(try dsimp only at h);(try simp only[nc,Int.toNat_natCast,ne_eq,zz]at h);(try simp only[nc]at h))|refine Ob.mk ?_ ?_|refine Chk.mk (by kernel_rfl) ?_|refine Eq'.mk ?_|(refine AllN.mk fun i hi=> ?_;cbv)|(refine AllC.mk fun c hc hcm=> ?_;(try dsimp only at hc);cbv)|(refine AllS.mk fun r hr=> ?_;(try simp only[Dat.ok,Dat.dec,Leaf.ok,Leaf.val,Z0,Z1,Z2,Z3,Z4,Z5,Z6,Z7,Z8,Z9,Z10,Z11,Z12,Z13,Z14,qA]at hr);cbv))
   |(have hk2:k<t.windows.length:=by omega
     have hw:qSj t.frame e (t.windows.getD k Dat.d0)=false:=by
      unfold qSj
      first
       |exact decide_eq_false (by omega)
       |(have ho:=(by assumption:ownB (t.windows.getD k Dat.d0).owner=false)
         simp only[ownB,decide_eq_false_iff_not]at ho
         exact decide_eq_false (by omega))
     refine fin _ _ _ ?_
     rw[qBJ,if_pos hs,if_neg (by omega),if_neg (by rw[hr,qL0 hk2,hw,Bool.false_and];decide)])
   |(refine fin _ _ _ ?_
     rw[qBJ,if_pos hs,if_neg (by omega),if_pos (by rw[hr,List.drop_eq_nil_of_le (by omega),okW])])
   |fail
theorem qKT:qBf Tryz.prog 25 (qM qJK):=qS fun A p r h hp0=>by
 unfold qJK at h
 split at h
 ·rename_i t
  cases h
  obtain⟨g0,hp⟩:=hp0
  exact⟨rfl,qO.pre (A':=[.agg (Dat.enc fun _=>(Dat.dec t:Table))]) (qTG (Dat.dec t) hp) (.mk (Dat.hle _ g0) (trivial))⟩
 ·cases h
structure AtX (t:Table) (x:Int) where
 k:Nat
 hk:k≤t.windows.length
 hr:atV t x=atW t.frame x (t.windows.drop k)
def qQU (r:Th (Int×Int)):AV:= .tup [.i .i64 fun _=>(r ()).1,.i .i64 fun _=>(r ()).2]
def qWF (t:Table) (x:Int):Prop:=qBJ t=0
def qQV:Det:=fun A=>match A with
 |[.agg t,.i .i64 x]=>some (fun _=>Dat.ok Table t∧qWF (Dat.dec t) (x ()),qQU fun _=>atV (Dat.dec t) (x ()))
 |_=>none
def qYu:FuncId→Option Dt:=fun f=>match f with
 |_=>none
theorem qTH:qBk Tryz.prog qYu:=fun f d h=>by
 unfold qYu at h
 split at h
 ·cases h
set_option maxRecDepth 100000 in
set_option maxHeartbeats 4000000 in
theorem qWG (t:Table) (x:Int) (hp:qWF t x):qO Tryz.prog 91 [.agg (Dat.enc fun _=>t),.i .i64 fun _=>x] [] (qAf (qQU fun _=>atV t x) []):=by
 refine qAe qI zl qP (qAb qI zl qTH mixed) (keep:=[0,1,2,4,5,7,9,10,11,12,18,27]) Tryz.func91 rfl ?_
 have hR:=qBA.1 (show qBJ t=0 from hp)
 have hlen:=hR.len
 have hs2:=hR.s2
 have fin:∀a b H kl,atV t x=(a,b)→qAf (qQU fun _=>atV t x) [] (.tup [.i .i64 fun _=>a,.i .i64 fun _=>b]) H kl:=fun a b H kl h=>by
  rw[h]
  cbv
  repeat' first|(refine Stp.mk ?_;cbv)|(refine Gen.mk fun r hr=> ?_;(try simp only[Dat.ok,Dat.dec,Leaf.ok,Leaf.val,Z0,Z1,Z2,Z3,Z4,Z5,Z6,Z7,Z8,Z9,Z10,Z11,Z12,Z13,Z14,qA,qB]at hr);cbv)|exact trivial|rfl|refine Both.mk ?_ ?_|(refine Imp.mk fun h=> ?_;(try dsimp only at h);(try simp only[nc,Int.toNat_natCast,ne_eq,zz]at h);(try simp only[nc]at h))|refine Ob.mk ?_ ?_|refine Chk.mk (by kernel_rfl) ?_|refine Eq'.mk ?_|(refine AllN.mk fun i hi=> ?_;cbv)|(refine AllC.mk fun c hc hcm=> ?_;(try dsimp only at hc);cbv)|(refine AllS.mk fun r hr=> ?_;(try simp only[Dat.ok,Dat.dec,Leaf.ok,Leaf.val,Z0,Z1,Z2,Z3,Z4,Z5,Z6,Z7,Z8,Z9,Z10,Z11,Z12,Z13,Z14,qA]at hr);cbv)
 generalize qAf (qQU fun _=>atV t x) []=K at fin ⊢
 cbv
 refine LoopVC.frame [4,5,7,11,12,18,27] (AtX t x) (fun x=>[(11,.i .i64 fun _=>x.k)]) (fun _=>[]) [] (fun x=>t.windows.length-x.k) ⟨0,Nat.zero_le _,by rw[List.drop_zero];rfl⟩ rfl (fun _=>rfl) ?_ ?_ fun⟨k,hk,hr⟩=> ?_
 iterate 2
  ·cbv
   repeat' first|(refine Stp.mk ?_;cbv)|(refine Gen.mk fun r hr=> ?_;(try simp only[Dat.ok,Dat.dec,Leaf.ok,Leaf.val,Z0,Z1,Z2,Z3,Z4,Z5,Z6,Z7,Z8,Z9,Z10,Z11,Z12,Z13,Z14,qA,qB]at hr);cbv)|exact trivial|rfl|refine Both.mk ?_ ?_|(refine Imp.mk fun h=> ?_;(try dsimp only at h);(try simp only[nc,Int.toNat_natCast,ne_eq,zz]at h);(try simp only[nc]at h))|refine Ob.mk ?_ ?_|refine Chk.mk (by kernel_rfl) ?_|refine Eq'.mk ?_|(refine AllN.mk fun i hi=> ?_;cbv)|(refine AllC.mk fun c hc hcm=> ?_;(try dsimp only at hc);cbv)|(refine AllS.mk fun r hr=> ?_;(try simp only[Dat.ok,Dat.dec,Leaf.ok,Leaf.val,Z0,Z1,Z2,Z3,Z4,Z5,Z6,Z7,Z8,Z9,Z10,Z11,Z12,Z13,Z14,qA]at hr);cbv)
 ·cbv
  repeat' first|(show Stp _;exfalso;first|omega|(exact h ‹_›)|(exact absurd ‹_› h)|(exact Bool.false_ne_true (h.symm.trans (show _=true by assumption))))|(refine Stp.mk ?_;cbv)|(refine Gen.mk fun r hr=> ?_;(try simp only[Dat.ok,Dat.dec,Leaf.ok,Leaf.val,Z0,Z1,Z2,Z3,Z4,Z5,Z6,Z7,Z8,Z9,Z10,Z11,Z12,Z13,Z14,qA,qB]at hr);cbv)|exact trivial|rfl|refine Both.mk ?_ ?_|(refine Imp.mk fun h=> ?_;(try dsimp only at h);(try simp only[nc,Int.toNat_natCast,ne_eq,zz]at h);(try simp only[nc]at h))|refine Ob.mk ?_ ?_|refine Chk.mk (by kernel_rfl) ?_|refine Eq'.mk ?_|(refine AllN.mk fun i hi=> ?_;cbv)|(refine AllC.mk fun c hc hcm=> ?_;(try dsimp only at hc);cbv)|(refine AllS.mk fun r hr=> ?_;(try simp only[Dat.ok,Dat.dec,Leaf.ok,Leaf.val,Z0,Z1,Z2,Z3,Z4,Z5,Z6,Z7,Z8,Z9,Z10,Z11,Z12,Z13,Z14,qA]at hr);cbv)
  all_goals ((try dsimp only at*);(try simp only[nc,Int.toNat_natCast,ne_eq,zz]at*);(try simp only[nc]at*))
  all_goals try rw[nc]at*
  all_goals try (have hw:=qO3 hR (show k<t.windows.length by omega))
  all_goals first
   |omega
   |exact⟨by omega,by omega⟩
   |(unfold InR;omega)
   |(have hk2:k<t.windows.length:=by omega
     refine⟨⟨k+1,by omega,by rw[hr,qKS hk2,if_neg (by omega),if_neg (by omega)]⟩, ?_, ?_,rfl,by(try dsimp only);omega⟩
     ·cbv
      repeat' first|(refine Stp.mk ?_;cbv)|(refine Gen.mk fun r hr=> ?_;(try simp only[Dat.ok,Dat.dec,Leaf.ok,Leaf.val,Z0,Z1,Z2,Z3,Z4,Z5,Z6,Z7,Z8,Z9,Z10,Z11,Z12,Z13,Z14,qA,qB]at hr);cbv)|exact trivial|rfl|refine Both.mk ?_ ?_|(refine Imp.mk fun h=> ?_;(try dsimp only at h);(try simp only[nc,Int.toNat_natCast,ne_eq,zz]at h);(try simp only[nc]at h))|refine Ob.mk ?_ ?_|refine Chk.mk (by kernel_rfl) ?_|refine Eq'.mk ?_|(refine AllN.mk fun i hi=> ?_;cbv)|(refine AllC.mk fun c hc hcm=> ?_;(try dsimp only at hc);cbv)|(refine AllS.mk fun r hr=> ?_;(try simp only[Dat.ok,Dat.dec,Leaf.ok,Leaf.val,Z0,Z1,Z2,Z3,Z4,Z5,Z6,Z7,Z8,Z9,Z10,Z11,Z12,Z13,Z14,qA]at hr);cbv)
     ·cbv
      repeat' first|(refine Stp.mk ?_;cbv)|(refine Gen.mk fun r hr=> ?_;(try simp only[Dat.ok,Dat.dec,Leaf.ok,Leaf.val,Z0,Z1,Z2,Z3,Z4,Z5,Z6,Z7,Z8,Z9,Z10,Z11,Z12,Z13,Z14,qA,qB]at hr);cbv)|exact trivial|rfl|refine Both.mk ?_ ?_|(refine Imp.mk fun h=> ?_;(try dsimp only at h);(try simp only[nc,Int.toNat_natCast,ne_eq,zz]at h);(try simp only[nc]at h))|refine Ob.mk ?_ ?_|refine Chk.mk (by kernel_rfl) ?_|refine Eq'.mk ?_|(refine AllN.mk fun i hi=> ?_;cbv)|(refine AllC.mk fun c hc hcm=> ?_;(try dsimp only at hc);cbv)|(refine AllS.mk fun r hr=> ?_;(try simp only[Dat.ok,Dat.dec,Leaf.ok,Leaf.val,Z0,Z1,Z2,Z3,Z4,Z5,Z6,Z7,Z8,Z9,Z10,Z11,Z12,Z13,Z14,qA]at hr);cbv))
   |(have hk2:k<t.windows.length:=by omega
     refine fin _ _ _ _ ?_
     first
      |(rw[hr,qKS hk2,if_pos (by omega)];done)
      |(rw[hr,qKS hk2,if_neg (by omega),if_pos (by omega)];done))
   |(refine fin _ _ _ _ ?_
     rw[hr,List.drop_eq_nil_of_le (by omega),atW])
   |fail
theorem qSn:qBf Tryz.prog 91 (qM qQV):=qS fun A p r h hp0=>by
 unfold qQV at h
 split at h
 ·rename_i t x
  cases h
  obtain⟨g0,hp⟩:=hp0
  exact⟨rfl,qO.pre (A':=[.agg (Dat.enc fun _=>(Dat.dec t:Table)),.i .i64 fun _=>x ()]) (qWG (Dat.dec t) (x ()) hp) (.mk (Dat.hle _ g0) (.mk (.mk (.mk rfl) (.mk rfl)) (trivial)))⟩
 ·cases h
def qV (t:Table) (x:Int):Int×Int:=if qBJ t=0 then(if x<0∨1099511627776<x then(0,1)else((atV t (x.tmod t.frame)).1,0))else(0,qBJ t)
def qFv (r:Th (Int×Int)):AV:= .tup [.i .i64 fun _=>(r ()).1,.i .i64 fun _=>(r ()).2]
def qL3 (t:Table) (x:Int):Prop:=t.windows.length≤9223372036854775807
def qFw:Det:=fun A=>match A with
 |[.agg t,.i .i64 x]=>some (fun _=>Dat.ok Table t∧qL3 (Dat.dec t) (x ()),qFv fun _=>qV (Dat.dec t) (x ()))
 |_=>none
noncomputable def cWo:FuncId→Con:=fun f=>match f with
 |25=>qH (qM qJK)
 |91=>qH (qM qQV)
 |_=>fun _ _ _=>Bad 1001
theorem qWH:qY Tryz.prog cWo:=fun f A H K h=>by
 unfold cWo at h
 split at h
 ·exact⟨⟨Tryz.f25,Tryz.func25,by kernel_rfl,by kernel_rfl⟩,qE qKT h⟩
 ·exact⟨⟨Tryz.f91,Tryz.func91,by kernel_rfl,by kernel_rfl⟩,qE qSn h⟩
 ·cases h
def dWo:FuncId→Option Dt:=fun f=>match f with
 |91=>some (.c qQV)
 |_=>none
theorem qWI:qBk Tryz.prog dWo:=fun f d h=>by
 unfold dWo at h
 split at h
 ·cases h;exact⟨⟨Tryz.f91,Tryz.func91,by kernel_rfl,by kernel_rfl⟩,qSn⟩
 ·cases h
set_option maxRecDepth 100000 in
set_option maxHeartbeats 4000000 in
theorem qO6 (t:Table) (x:Int) (hp:qL3 t x):qO Tryz.prog 56 [.agg (Dat.enc fun _=>t),.i .i64 fun _=>x] [] (qAf (qFv fun _=>qV t x) []):=by
 refine qAe qI zl qWH (qAb qI zl qWI mixed) (keep:=[0,1,2,4,5,6,7,12,19]) Tryz.func56 rfl ?_
 have hp':t.windows.length≤9223372036854775807:=hp
 have fin:∀a b H kl,qV t x=(a,b)→qAf (qFv fun _=>qV t x) [] (.tup [.i .i64 fun _=>a,.i .i64 fun _=>b]) H kl:=fun a b H kl h=>by
  rw[h]
  cbv
  repeat' first|(refine Stp.mk ?_;cbv)|(refine Gen.mk fun r hr=> ?_;(try simp only[Dat.ok,Dat.dec,Leaf.ok,Leaf.val,Z0,Z1,Z2,Z3,Z4,Z5,Z6,Z7,Z8,Z9,Z10,Z11,Z12,Z13,Z14,qA,qB]at hr);cbv)|exact trivial|rfl|refine Both.mk ?_ ?_|(refine Imp.mk fun h=> ?_;(try dsimp only at h);(try simp only[nc,Int.toNat_natCast,ne_eq,zz]at h);(try simp only[nc]at h))|refine Ob.mk ?_ ?_|refine Chk.mk (by kernel_rfl) ?_|refine Eq'.mk ?_|(refine AllN.mk fun i hi=> ?_;cbv)|(refine AllC.mk fun c hc hcm=> ?_;(try dsimp only at hc);cbv)|(refine AllS.mk fun r hr=> ?_;(try simp only[Dat.ok,Dat.dec,Leaf.ok,Leaf.val,Z0,Z1,Z2,Z3,Z4,Z5,Z6,Z7,Z8,Z9,Z10,Z11,Z12,Z13,Z14,qA]at hr);cbv)
 generalize qAf (qFv fun _=>qV t x) []=K at fin ⊢
 cbv
 repeat' first|(show Stp _;exfalso;first|omega|(exact h ‹_›)|(exact absurd ‹_› h)|(exact Bool.false_ne_true (h.symm.trans (show _=true by assumption))))|(refine Stp.mk ?_;cbv)|(refine Gen.mk fun r hr=> ?_;(try simp only[Dat.ok,Dat.dec,Leaf.ok,Leaf.val,Z0,Z1,Z2,Z3,Z4,Z5,Z6,Z7,Z8,Z9,Z10,Z11,Z12,Z13,Z14,qA,qB]at hr);cbv)|exact trivial|rfl|refine Both.mk ?_ ?_|(refine Imp.mk fun h=> ?_;(try dsimp only at h);(try simp only[nc,Int.toNat_natCast,ne_eq,zz]at h);(try simp only[nc]at h))|refine Ob.mk ?_ ?_|refine Chk.mk (by kernel_rfl) ?_|refine Eq'.mk ?_|(refine AllN.mk fun i hi=> ?_;cbv)|(refine AllC.mk fun c hc hcm=> ?_;(try dsimp only at hc);cbv)|(refine AllS.mk fun r hr=> ?_;(try simp only[Dat.ok,Dat.dec,Leaf.ok,Leaf.val,Z0,Z1,Z2,Z3,Z4,Z5,Z6,Z7,Z8,Z9,Z10,Z11,Z12,Z13,Z14,qA]at hr);cbv)
 all_goals ((try dsimp only at*);(try simp only[nc,Int.toNat_natCast,ne_eq,zz]at*);(try simp only[nc]at*))
 all_goals try simp only[Dat.dec,Leaf.val,Z0,Z1,Z2,Z3,Z4,Z5,Z6,Z7,Z8,Z9,Z10,Z11,Z12,Z13,Z14,qA]at*
 all_goals try (have hR:=qBA.1 (by assumption:qBJ t=0);have h1:=hR.s1)
 all_goals first
  |omega
  |exact⟨⟨trivial,rfl,fun i _=>Dat.hok _⟩,hp'⟩
  |exact⟨⟨trivial,rfl,fun i _=>Dat.hok _⟩,(by assumption:qBJ t=0)⟩
  |(refine fin _ _ _ _ ?_
    first
     |(rw[qV,if_neg (by assumption)];done)
     |(rw[qV,if_pos (by assumption),if_pos (by omega)];done)
     |(rw[qV,if_pos (by assumption),if_neg (by omega)];done))
  |fail
theorem qJL:qBf Tryz.prog 56 (qM qFw):=qS fun A p r h hp0=>by
 unfold qFw at h
 split at h
 ·rename_i t x
  cases h
  obtain⟨g0,hp⟩:=hp0
  exact⟨rfl,qO.pre (A':=[.agg (Dat.enc fun _=>(Dat.dec t:Table)),.i .i64 fun _=>x ()]) (qO6 (Dat.dec t) (x ()) hp) (.mk (Dat.hle _ g0) (.mk (.mk (.mk rfl) (.mk rfl)) (trivial)))⟩
 ·cases h
end Go.Proofs.YtiaiifcgbjlfoaaGreatDoor
