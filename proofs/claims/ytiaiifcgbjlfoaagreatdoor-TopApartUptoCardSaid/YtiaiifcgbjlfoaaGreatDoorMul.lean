/- math/bits.Mul64, walked. -/
import Derived.Test.YtiaiifcgbjlfoaaGreatDoorTy
set_option linter.all false
namespace Go.Proofs.YtiaiifcgbjlfoaaGreatDoor
open Go Go.Abs
theorem wrap_u64 {n:Int}(h0:0≤n) (h1:n<18446744073709551616):IntKind.u64.wrap n=n:=by
 unfold IntKind.wrap
 simp[IntKind.signed,IntKind.bits]
 omega
theorem qOM (n:Int):IntKind.u64.wrap n=n%18446744073709551616:=by
 unfold IntKind.wrap
 simp[IntKind.signed,IntKind.bits]
theorem qTt (x:Int) (k:Nat) (h:k≤64):qNh .u64 x k=x/2^k:=by
 unfold qNh
 rw[Int.toNat_natCast,show min k IntKind.u64.bits=k from Nat.min_eq_left h]
 exact Int.fdiv_eq_ediv_of_nonneg x (Int.le_of_lt (Int.pow_pos (by decide)))
theorem qYe (x:Int):qNh .u64 x 32=x/4294967296:=qTt x 32 (by decide)
theorem qTu {x:Int}(h0:0≤x) (h1:x<18446744073709551616):qUC .u64 x 4294967295=x%4294967296:=by
 obtain⟨X,rfl⟩:=Int.eq_ofNat_of_zero_le h0
 show IntKind.u64.wrap ((BitVec.ofInt 64 (X:Int)&&&BitVec.ofInt 64 4294967295).toNat:Int)=_
 have t:∀m:Nat,m<18446744073709551616→(BitVec.ofInt 64 (m:Int)).toNat=m:=fun m hm=>by
  rw[BitVec.toNat_ofInt];omega
 rw[BitVec.toNat_and,t X (by omega),show(BitVec.ofInt 64 4294967295).toNat=2^32-1 from by decide,Nat.and_two_pow_sub_one_eq_mod]
 rw[wrap_u64 (by omega) (by omega)]
 omega
def qXO (x y:Int):Int×Int:=(x*y/18446744073709551616,x*y%18446744073709551616)
theorem qWr {x y:Int}(h1:0≤x) (h2:x<18446744073709551616) (h3:0≤y) (h4:y<18446744073709551616):
  (x%4294967296)*(y%4294967296)<18446744073709551616∧0≤(x%4294967296)*(y%4294967296)∧
  0≤(x/4294967296)*(y%4294967296)∧0≤(x%4294967296)*(y/4294967296)∧0≤(x/4294967296)*(y/4294967296)∧
  (x/4294967296)*(y%4294967296)+(x%4294967296)*(y%4294967296)/4294967296<18446744073709551616∧
  ((x/4294967296)*(y%4294967296)+(x%4294967296)*(y%4294967296)/4294967296)%4294967296+(x%4294967296)*(y/4294967296)<18446744073709551616∧
  (x/4294967296)*(y/4294967296)+((x/4294967296)*(y%4294967296)+(x%4294967296)*(y%4294967296)/4294967296)/4294967296+
    (((x/4294967296)*(y%4294967296)+(x%4294967296)*(y%4294967296)/4294967296)%4294967296+(x%4294967296)*(y/4294967296))/4294967296=x*y/18446744073709551616∧
  0≤x*y∧x*y/18446744073709551616<18446744073709551616:=by
 have half:∀a b:Int,0≤a→a≤4294967295→0≤b→b≤4294967295→0≤a*b∧a*b≤18446744065119617025:=fun a b ha ha' hb hb'=>
  ⟨Int.mul_nonneg ha hb,Int.le_trans (Int.mul_le_mul ha' hb' hb (by decide)) (by decide)⟩
 have hx:x=x/4294967296*4294967296+x%4294967296:=by omega
 have hy:y=y/4294967296*4294967296+y%4294967296:=by omega
 have hx1:0≤x/4294967296∧x/4294967296≤4294967295:=by omega
 have hx0:0≤x%4294967296∧x%4294967296≤4294967295:=by omega
 have hy1:0≤y/4294967296∧y/4294967296≤4294967295:=by omega
 have hy0:0≤y%4294967296∧y%4294967296≤4294967295:=by omega
 generalize x/4294967296=x1 at*
 generalize x%4294967296=x0 at*
 generalize y/4294967296=y1 at*
 generalize y%4294967296=y0 at*
 have e:x*y=x1*y1*18446744073709551616+(x1*y0+x0*y1)*4294967296+x0*y0:=by
  rw[hx,hy];grind
 rw[e]
 have ha:=half x1 y1 hx1.1 hx1.2 hy1.1 hy1.2
 have hb:=half x1 y0 hx1.1 hx1.2 hy0.1 hy0.2
 have hc:=half x0 y1 hx0.1 hx0.2 hy1.1 hy1.2
 have hd:=half x0 y0 hx0.1 hx0.2 hy0.1 hy0.2
 generalize x1*y1=a at*
 generalize x1*y0=b at*
 generalize x0*y1=c at*
 generalize x0*y0=d at*
 refine⟨by omega,by omega,by omega,by omega,by omega,by omega,by omega,by omega,by omega,by omega⟩
def qON (r:Th (Int×Int)):AV:= .tup [.i .u64 fun _=>(r ()).1,.i .u64 fun _=>(r ()).2]
def qOO (x:Int) (y:Int):Prop:=0≤x∧x<18446744073709551616∧0≤y∧y<18446744073709551616
def qKM:Det:=fun A=>match A with
 |[.i .u64 x,.i .u64 y]=>some (fun _=>qOO (x ()) (y ()),qON fun _=>qXO (x ()) (y ()))
 |_=>none
set_option maxRecDepth 100000 in
set_option maxHeartbeats 4000000 in
theorem qQE (x:Int) (y:Int) (hp:qOO x y):qO Tryz.prog 115 [.i .u64 fun _=>x,.i .u64 fun _=>y] [] (qAf (qON fun _=>qXO x y) []):=by
 refine qAe qI zl qP qD (keep:=[0,1,4,5,6,7,8,9,10,11,12,13]) Tryz.func115 rfl ?_
 obtain⟨h1,h2,h3,h4⟩:0≤x∧x<18446744073709551616∧0≤y∧y<18446744073709551616:=hp
 cbv
 repeat' first|(show Stp _;exfalso;first|omega|(exact h ‹_›)|(exact absurd ‹_› h)|(exact Bool.false_ne_true (h.symm.trans (show _=true by assumption))))|(refine Stp.mk ?_;cbv)|(refine Gen.mk fun r hr=> ?_;(try simp only[Dat.ok,Dat.dec,Leaf.ok,Leaf.val,Z0,Z1,Z2,Z3,Z4,Z5,Z6,Z7,Z8,Z9,Z10,Z11,Z12,Z13,Z14,qA,qB]at hr);cbv)|exact trivial|rfl|refine Both.mk ?_ ?_|(refine Imp.mk fun h=> ?_;(try dsimp only at h);(try simp only[nc,Int.toNat_natCast,ne_eq,zz]at h);(try simp only[nc]at h))|refine Ob.mk ?_ ?_|refine Chk.mk (by kernel_rfl) ?_|refine Eq'.mk ?_|(refine AllN.mk fun i hi=> ?_;cbv)|(refine AllC.mk fun c hc hcm=> ?_;(try dsimp only at hc);cbv)|(refine AllS.mk fun r hr=> ?_;(try simp only[Dat.ok,Dat.dec,Leaf.ok,Leaf.val,Z0,Z1,Z2,Z3,Z4,Z5,Z6,Z7,Z8,Z9,Z10,Z11,Z12,Z13,Z14,qA]at hr);cbv)
 all_goals ((try dsimp only at*);(try simp only[nc,Int.toNat_natCast,ne_eq,zz]at*);(try simp only[nc]at*))
 all_goals first
  |decide
  |(show IntKind.u64.wrap (x*y)=x*y%18446744073709551616;exact qOM _)
  |(obtain⟨k1,k2,k3,k4,k5,k6,k7,k8,k9,k10⟩:=qWr h1 h2 h3 h4
    show _=x*y/18446744073709551616
    simp only[qYe,qTu h1 h2,qTu h3 h4]
    rw[wrap_u64 k2 k1]
    rw[wrap_u64 k3 (by omega)]
    rw[wrap_u64 (n:=x/4294967296*(y%4294967296)+x%4294967296*(y%4294967296)/4294967296) (by omega) k6]
    rw[qTu (by omega) k6]
    rw[wrap_u64 k4 (by omega)]
    rw[wrap_u64 (n:=(x/4294967296*(y%4294967296)+x%4294967296*(y%4294967296)/4294967296)%4294967296+x%4294967296*(y/4294967296)) (by omega) k7]
    rw[wrap_u64 k5 (by omega)]
    rw[wrap_u64 (n:=x/4294967296*(y/4294967296)+(x/4294967296*(y%4294967296)+x%4294967296*(y%4294967296)/4294967296)/4294967296) (by omega) (by omega)]
    rw[k8,wrap_u64 (by omega) k10])
  |fail
theorem qQF:qBf Tryz.prog 115 (qM qKM):=qS fun A p r h hp0=>by
 unfold qKM at h
 split at h
 ·rename_i x y
  cases h
  have hp:=hp0
  exact⟨rfl,qO.pre (A':=[.i .u64 fun _=>x (),.i .u64 fun _=>y ()]) (qQE (x ()) (y ()) hp) (.mk (.mk (.mk rfl) (.mk rfl)) (.mk (.mk (.mk rfl) (.mk rfl)) (trivial)))⟩
 ·cases h
end Go.Proofs.YtiaiifcgbjlfoaaGreatDoor
