/- The program's functions, walked: Sort. -/
import Derived.Test.YtiaiifcgbjlfoaaGreatDoorAbsG4
import Derived.Test.YtiaiifcgbjlfoaaGreatDoorTy
set_option linter.all false
namespace Go.Proofs.YtiaiifcgbjlfoaaGreatDoor
open Go Go.Abs
def clSp_R (r:Th ((List Span))):AV:= .own 0 fun _=>(r ()).length
def clSp_H (r:Th ((List Span))):Hp:=[vecO 108 fun _=>(r ())]
def clSp_P (l:(List Span)):Prop:=l.length≤1099511627776
def clSp_C:PC:=fun A K=>match A with
 |[l]=>Ob (fun _=>Leaf.ok (List Span) l∧clSp_P (Leaf.val l)) (Gen (α:=(List Span)) (fun _=>(Leaf.val l)) fun r=>K (clSp_R fun _=>r) (clSp_H fun _=>r))
 |_=>Bad 1002
set_option maxRecDepth 100000 in
set_option maxHeartbeats 4000000 in
theorem clSp_vc (l:(List Span)) (hp:clSp_P l):FnOk Tryz.prog 64 [Leaf.av fun _=>l] [] (outA (clSp_R fun _=>l) (clSp_H fun _=>l)):=by
 refine fn_ok envOk zl noCon_ok noDraws_ok (keep:=[0,2,4]) Tryz.func64 rfl ?_
 have hp':l.length≤1099511627776:=hp
 cbv
 repeat' first|(refine Stp.mk ?_;cbv)|(refine Gen.mk fun r hr=> ?_;(try simp only[Dat.ok,Dat.dec,Leaf.ok,Leaf.val,Z0,Z1,Z2,Z3,Z4,Z5,Z6,Z7,Z8,Z9,Z10,Z11,Z12,Z13,Z14,Z15,Z16,Z17,Z18,Z19,Z20,Z21,Z22,val_sl,val_nil]at hr);cbv)|exact trivial|rfl|refine Both.mk ?_ ?_|(refine Imp.mk fun h=> ?_;(try dsimp only at h);(try simp only[nc,Int.toNat_natCast,ne_eq,zz]at h);(try simp only[nc]at h))|refine Ob.mk ?_ ?_|refine Chk.mk (by kernel_rfl) ?_|refine Eq'.mk ?_|(refine AllN.mk fun i hi=> ?_;cbv)|(refine AllC.mk fun c hc hcm=> ?_;(try dsimp only at hc);cbv)|(refine AllS.mk fun r hr=> ?_;(try simp only[Dat.ok,Dat.dec,Leaf.ok,Leaf.val,Z0,Z1,Z2,Z3,Z4,Z5,Z6,Z7,Z8,Z9,Z10,Z11,Z12,Z13,Z14,Z15,Z16,Z17,Z18,Z19,Z20,Z21,Z22,val_sl]at hr);cbv)
 all_goals ((try dsimp only at*);(try simp only[nc,Int.toNat_natCast,ne_eq,zz]at*);(try simp only[nc]at*))
 all_goals first
  |omega
  |(exact⟨Nat.le_refl _,trivial,by omega,by omega⟩)
  |(simp only[Nat.zero_add,Nat.sub_zero,Nat.not_lt_zero,decide_false,cond_false];done)
  |(simp_all;done)
  |fail
theorem clSp_ok:PcOk Tryz.prog 64 (clSp_C):=fun A K h=>by
 unfold clSp_C at h
 split at h
 ·rename_i l
  cases h with
  |mk h1 h2=>
   obtain⟨g0,hp⟩:=h1
   refine FnOk.pre ?_ (A':=[Leaf.av fun _=>(Leaf.val l:(List Span))]) (.mk (Leaf.hle _ g0) (trivial))
   exact FnOk.out (K:=fun r H _=>K r H) (clSp_vc (Leaf.val l) hp) rfl h2.out
 ·cases h
end Go.Proofs.YtiaiifcgbjlfoaaGreatDoor
