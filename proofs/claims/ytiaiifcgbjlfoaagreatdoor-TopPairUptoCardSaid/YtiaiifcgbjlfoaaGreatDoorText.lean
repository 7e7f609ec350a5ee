/- strconv.Itoa by the kit's theorem; pair.Text. -/
import Derived.Test.YtiaiifcgbjlfoaaGreatDoorPairQ
set_option linter.all false
namespace Go.Proofs.YtiaiifcgbjlfoaaGreatDoor
open Go Go.Abs
def okE (x:Emit):Prop:=(-9223372036854775808≤x.port∧x.port≤9223372036854775807)∧-9223372036854775808≤x.n∧x.n≤9223372036854775807
theorem sp_size:(⟨#[32]⟩:ByteArray).size=1:=rfl
def dTx:FuncId→Option Dt:=fun f=>match f with
 |49=>some (.c itoaC_D)
 |_=>none
theorem dTx_ok:DetOk Tryz.prog dTx:=fun f d h=>by
 unfold dTx at h
 split at h
 ·cases h;exact⟨⟨Tryz.f49,Tryz.func49,by kernel_rfl,by kernel_rfl⟩,itoaC_ok⟩
 ·cases h
def textC_R (r:Th (ByteArray)):AV:= .s fun _=>(r ())
def textC_P (x:Emit):Prop:=okE x
def textC_D:Det:=fun A=>match A with
 |[.agg x]=>some (fun _=>Dat.ok Emit x∧textC_P (Dat.dec x),textC_R fun _=>textV (Dat.dec x))
 |_=>none
set_option maxRecDepth 100000 in
set_option maxHeartbeats 4000000 in
theorem textC_vc (x:Emit) (hp:textC_P x):FnOk Tryz.prog 16 [.agg (Dat.enc fun _=>x)] [] (outA (textC_R fun _=>textV x) []):=by
 refine fn_ok envOk zl noCon_ok (draws_ok envOk zl dTx_ok mixed) (keep:=[0,1,2]) Tryz.func16 rfl ?_
 cbv
 repeat' first|(show Stp _;exfalso;first|omega|(exact h ‹_›)|(exact absurd ‹_› h)|(exact Bool.false_ne_true (h.symm.trans (show _=true by assumption))))|(refine Stp.mk ?_;cbv)|(refine Gen.mk fun r hr=> ?_;(try simp only[Dat.ok,Dat.dec,Leaf.ok,Leaf.val,Z0,Z1,Z2,Z3,Z4,Z5,Z6,Z7,Z8,Z9,Z10,Z11,Z12,Z13,Z14,Z15,Z16,Z17,Z18,Z19,Z20,Z21,Z22,val_sl,val_nil]at hr);cbv)|exact trivial|rfl|refine Both.mk ?_ ?_|(refine Imp.mk fun h=> ?_;(try dsimp only at h);(try simp only[nc,Int.toNat_natCast,ne_eq,zz]at h);(try simp only[nc]at h))|refine Ob.mk ?_ ?_|refine Chk.mk (by kernel_rfl) ?_|refine Eq'.mk ?_|(refine AllN.mk fun i hi=> ?_;cbv)|(refine AllC.mk fun c hc hcm=> ?_;(try dsimp only at hc);cbv)|(refine AllS.mk fun r hr=> ?_;(try simp only[Dat.ok,Dat.dec,Leaf.ok,Leaf.val,Z0,Z1,Z2,Z3,Z4,Z5,Z6,Z7,Z8,Z9,Z10,Z11,Z12,Z13,Z14,Z15,Z16,Z17,Z18,Z19,Z20,Z21,Z22,val_sl]at hr);cbv)
 all_goals ((try dsimp only at*);(try simp only[nc,Int.toNat_natCast,ne_eq,zz]at*);(try simp only[nc]at*))
 all_goals have h1:=itoaB_size hp.1
 all_goals have h2:=itoaB_size hp.2
 all_goals first
  |exact hp.1
  |exact hp.2
  |(rw[sp_size];omega)
  |(rw[ByteArray.size_append,sp_size];omega)
  |fail
theorem textC_ok:PcOk Tryz.prog 16 (detPC textC_D):=det_okA fun A p r h hp0=>by
 unfold textC_D at h
 split at h
 ·rename_i x
  cases h
  obtain⟨g0,hp⟩:=hp0
  exact⟨rfl,FnOk.pre (A':=[.agg (Dat.enc fun _=>(Dat.dec x:Emit))]) (textC_vc (Dat.dec x) hp) (.mk (Dat.hle _ g0) (trivial))⟩
 ·cases h
end Go.Proofs.YtiaiifcgbjlfoaaGreatDoor
