/- The program's functions, walked: Sort. -/
import Derived.Test.YtiaiifcgbjlfoaaGreatDoorAbsG4
import Derived.Test.YtiaiifcgbjlfoaaGreatDoorTy
set_option linter.all false
namespace Go.Proofs.YtiaiifcgbjlfoaaGreatDoor
open Go Go.Abs
def qRR (r:Th ((List Span))):AV:= .own 0 fun _=>(r ()).length
def qRS (r:Th ((List Span))):Hp:=[qA2 108 fun _=>(r ())]
def qRT (l:(List Span)):Prop:=l.length≤1099511627776
def qLG:PC:=fun A K=>match A with
 |[l]=>Ob (fun _=>Leaf.ok (List Span) l∧qRT (Leaf.val l)) (Gen (α:=(List Span)) (fun _=>(Leaf.val l)) fun r=>K (qRR fun _=>r) (qRS fun _=>r))
 |_=>Bad 1002
set_option maxRecDepth 100000 in
set_option maxHeartbeats 4000000 in
theorem qS1 (l:(List Span)) (hp:qRT l):qO Tryz.prog 64 [Leaf.av fun _=>l] [] (qAf (qRR fun _=>l) (qRS fun _=>l)):=by
 refine qAe qI zl qP qD (keep:=[0,2,4]) Tryz.func64 rfl ?_
 have hp':l.length≤1099511627776:=hp
 cbv
 repeat' first|(refine Stp.mk ?_;cbv)|(refine Gen.mk fun r hr=> ?_;(try simp only[Dat.ok,Dat.dec,Leaf.ok,Leaf.val,Z0,Z1,Z2,Z3,Z4,Z5,Z6,Z7,Z8,Z9,Z10,Z11,Z12,Z13,Z14,qA,qB]at hr);cbv)|exact trivial|rfl|refine Both.mk ?_ ?_|(refine Imp.mk fun h=> ?_;(try dsimp only at h);(try simp only[nc,Int.toNat_natCast,ne_eq,zz]at h);(try simp only[nc]at h))|refine Ob.mk ?_ ?_|refine Chk.mk (by kernel_rfl) ?_|refine Eq'.mk ?_|(refine AllN.mk fun i hi=> ?_;cbv)|(refine AllC.mk fun c hc hcm=> ?_;(try dsimp only at hc);cbv)|(refine AllS.mk fun r hr=> ?_;(try simp only[Dat.ok,Dat.dec,Leaf.ok,Leaf.val,Z0,Z1,Z2,Z3,Z4,Z5,Z6,Z7,Z8,Z9,Z10,Z11,Z12,Z13,Z14,qA]at hr);cbv)
 all_goals ((try dsimp only at*);(try simp only[nc,Int.toNat_natCast,ne_eq,zz]at*);(try simp only[nc]at*))
 all_goals first
  |omega
  |(exact⟨Nat.le_refl _,trivial,by omega,by omega⟩)
  |(simp only[Nat.zero_add,Nat.sub_zero,Nat.not_lt_zero,decide_false,cond_false];done)
  |(simp_all;done)
  |fail
theorem qOh:qBf Tryz.prog 64 (qLG):=fun A K h=>by
 unfold qLG at h
 split at h
 ·rename_i l
  cases h with
  |mk h1 h2=>
   obtain⟨g0,hp⟩:=h1
   refine qO.pre ?_ (A':=[Leaf.av fun _=>(Leaf.val l:(List Span))]) (.mk (Leaf.hle _ g0) (trivial))
   exact qO.out (K:=fun r H _=>K r H) (qS1 (Leaf.val l) hp) rfl h2.out
 ·cases h
end Go.Proofs.YtiaiifcgbjlfoaaGreatDoor
