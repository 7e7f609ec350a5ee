/- What comes out of a pair is what one alone lets out, handed to another gate; for all inputs. -/
import Derived.Test.YtiaiifcgbjlfoaaGreatDoorLivT
import Derived.Test.YtiaiifcgbjlfoaaGreatDoorTopP
import Derived.Test.YtiaiifcgbjlfoaaGreatDoorCards
import Derived.Test.YtiaiifcgbjlfoaaGreatDoorTie
import Derived.Deep.DeepHandedRow
import Derived.Stop.LaidErr
import Derived.Shelf.Vars
set_option linter.all false
namespace Go.Proofs.YtiaiifcgbjlfoaaGreatDoor
open Go Go.Abs
attribute [local irreducible] playA parseV
noncomputable def cTP:FuncId→Con:=fun f=>match f with
 |13=>frCon parseF_D
 |7=>pureCon (detPC livT_D)
 |14=>pureCon (detPC playC_D)
 |15=>frCon newF_D
 |10=>frCon runF_D
 |16=>pureCon (detPC textC_D)
 |17=>pureCon gplay_C
 |18=>pureCon (detPC eqStr_D)
 |_=>fun _ _ _=>Bad 1001
theorem cTP_ok:ConOk Tryz.prog cTP:=fun f A H K h=>by
 unfold cTP at h
 split at h
 ·exact⟨⟨Tryz.f13,Tryz.func13,by kernel_rfl,by kernel_rfl⟩,frCon_ok parseF_okF h⟩
 ·exact⟨⟨Tryz.f7,Tryz.func7,by kernel_rfl,by kernel_rfl⟩,pureCon_ok livT_ok h⟩
 ·exact⟨⟨Tryz.f14,Tryz.func14,by kernel_rfl,by kernel_rfl⟩,pureCon_ok playC_ok h⟩
 ·exact⟨⟨Tryz.f15,Tryz.func15,by kernel_rfl,by kernel_rfl⟩,frCon_ok newF_okF h⟩
 ·exact⟨⟨Tryz.f10,Tryz.func10,by kernel_rfl,by kernel_rfl⟩,frCon_ok runF_okF h⟩
 ·exact⟨⟨Tryz.f16,Tryz.func16,by kernel_rfl,by kernel_rfl⟩,pureCon_ok textC_ok h⟩
 ·exact⟨⟨Tryz.f17,Tryz.func17,by kernel_rfl,by kernel_rfl⟩,pureCon_ok gplay_ok h⟩
 ·exact⟨⟨Tryz.f18,Tryz.func18,by kernel_rfl,by kernel_rfl⟩,pureCon_ok eqStr_ok h⟩
 ·cases h
def dTP:FuncId→Option Dt:=fun f=>match f with
 |15=>some (.f newF_D)
 |10=>some (.f runF_D)
 |_=>none
theorem dTP_ok:DetOk Tryz.prog dTP:=fun f d h=>by
 unfold dTP at h
 split at h
 ·cases h;exact⟨⟨Tryz.f15,Tryz.func15,by kernel_rfl,by kernel_rfl⟩,newF_okF⟩
 ·cases h;exact⟨⟨Tryz.f10,Tryz.func10,by kernel_rfl,by kernel_rfl⟩,runF_okF⟩
 ·cases h
structure TpX (o:List Emit) where
 k:Nat
 hk:k≤o.length
set_option maxRecDepth 100000 in
set_option maxHeartbeats 4000000 in
theorem tppair_vc (text:ByteArray) (n:Int) (l:(List PairAct)) (fit_text:Siz.fit text) (fit_n:Siz.fit n) (fit_l:Siz.fit l) (hB:Siz.bulk text+Siz.bulk n+Siz.bulk l≤1048576):FnOk Tryz.prog 4 [.s fun _=>text,.i .i64 fun _=>n,Leaf.av fun _=>l] [] (outA (.bc true) []):=by
 refine fn_ok envOk zl cTP_ok (draws_ok envOk zl dTP_ok mixed) (keep:=[0,1,2,6,7,9,10,12,14,17,18,19,20,21,23,35,46,61,62,63,64,73]) Tryz.func4 rfl ?_
 have fin:= @fin_b
 have finc:= @fin_t
 have e40:maxLen≤9223372036854775807:=by unfold maxLen;decide
 have ll:l.length≤9223372036854775807:=Nat.le_trans fit_l.1 e40
 have lc:(parseV text).1.length≤9223372036854775807:=Nat.le_trans (parse_le text) (by decide)
 generalize outA (.bc true) []=K at fin finc
 cbv
 repeat' first|(show Stp _;exfalso;first|omega|(exact h ‹_›)|(exact absurd ‹_› h)|(exact Bool.false_ne_true (h.symm.trans (show _=true by assumption))))|(refine Stp.mk ?_;cbv)|(refine Gen.mk fun r hr=> ?_;(try simp only[Dat.ok,Dat.dec,Leaf.ok,Leaf.val,Z0,Z1,Z2,Z3,Z4,Z5,Z6,Z7,Z8,Z9,Z10,Z11,Z12,Z13,Z14,Z15,Z16,Z17,Z18,Z19,Z20,Z21,Z22,val_sl,val_nil]at hr);cbv)|exact trivial|rfl|refine Both.mk ?_ ?_|(refine Imp.mk fun h=> ?_;(try dsimp only at h);(try simp only[nc,Int.toNat_natCast,ne_eq,zz]at h);(try simp only[nc]at h))|refine Ob.mk ?_ ?_|refine Chk.mk (by kernel_rfl) ?_|refine Eq'.mk ?_|(refine AllN.mk fun i hi=> ?_;cbv)|(refine AllC.mk fun c hc hcm=> ?_;(try dsimp only at hc);cbv)|(refine AllS.mk fun r hr=> ?_;(try simp only[Dat.ok,Dat.dec,Leaf.ok,Leaf.val,Z0,Z1,Z2,Z3,Z4,Z5,Z6,Z7,Z8,Z9,Z10,Z11,Z12,Z13,Z14,Z15,Z16,Z17,Z18,Z19,Z20,Z21,Z22,val_sl]at hr);cbv)
 all_goals ((try dsimp only at*);(try simp only[nc,Int.toNat_natCast,ne_eq,zz]at*);(try simp only[nc]at*))
 all_goals try simp only[Dat.dec,Leaf.val,Z0,Z1,Z2,Z3,Z4,Z5,Z6,Z7,Z8,Z9,Z10,Z11,Z12,Z13,Z14,Z15,Z16,Z17,Z18,Z19,Z20,Z21,Z22,val_sl]at*
 all_goals try first
  |exact finc
  |exact⟨⟨rfl,fun i _=>Dat.hok _⟩,⟨rfl,fun i _=>Dat.hok _⟩,lc,ll⟩
  |(have h9:(playA (parseV text).1 n l).2.2=0:=by assumption
    have h8:=(play_st h9).ll
    have h7:=(play_ok h9).2.2.2.1
    exact⟨⟨rfl,fun i _=>Dat.hok _⟩,⟨trivial,⟨rfl,fun i _=>Dat.hok _⟩,trivial,trivial⟩,⟨rfl,fun i _=>Dat.hok _⟩,lc,show _≤_ by decide,by omega⟩)
 have H0:(playA (parseV text).1 n l).2.2=0:=by assumption
 obtain⟨g1,g2,g3,g4⟩:=pair_law H0
 have e0:v0=newC_S:=rfl
 rw[e0]at g2 g3 g4
 have hb:= @runV_bd (parseV text).1 newC_S (playA (parseV text).1 n l).1.log 5000
 have hE:∀e∈(runV (parseV text).1 newC_S (playA (parseV text).1 n l).1.log 5000).2.1,okE e:=runV_okE
 revert g1 g2 g3 g4 hb hE
 generalize runV (parseV text).1 newC_S (playA (parseV text).1 n l).1.log 5000=R
 generalize playA (parseV text).1 n l=p at*
 intro g1 g2 g3 g4 hb hE
 have ol:R.2.1.length≤5000:=by omega
 have hok:∀k:Nat,k<R.2.1.length→okE (R.2.1.getD k Dat.d0):=fun k h=>hE _ (by rw[List.getD_eq_getElem?_getD,List.getElem?_eq_getElem h];exact List.getElem_mem _)
 refine LoopVC.frame [18,19,20,63,64,73] (TpX R.2.1) (fun x=>[(63,.i .i64 fun _=>x.k),(18,.own 2 fun _=>(opsV R.2.1 (min x.k p.1.gate.out.length)).length)]) (fun x=>[(2,vecO 75 fun _=>opsV R.2.1 (min x.k p.1.gate.out.length))]) [2] (fun x=>R.2.1.length-x.k) ⟨0,Nat.zero_le _⟩ rfl (fun _=>rfl) ?_ ?_ fun⟨k,hk⟩=> ?_
 ·cbv
  repeat' first|(refine Stp.mk ?_;cbv)|(refine Gen.mk fun r hr=> ?_;(try simp only[Dat.ok,Dat.dec,Leaf.ok,Leaf.val,Z0,Z1,Z2,Z3,Z4,Z5,Z6,Z7,Z8,Z9,Z10,Z11,Z12,Z13,Z14,Z15,Z16,Z17,Z18,Z19,Z20,Z21,Z22,val_sl,val_nil]at hr);cbv)|exact trivial|rfl|refine Both.mk ?_ ?_|(refine Imp.mk fun h=> ?_;(try dsimp only at h);(try simp only[nc,Int.toNat_natCast,ne_eq,zz]at h);(try simp only[nc]at h))|refine Ob.mk ?_ ?_|refine Chk.mk (by kernel_rfl) ?_|refine Eq'.mk ?_|(refine AllN.mk fun i hi=> ?_;cbv)|(refine AllC.mk fun c hc hcm=> ?_;(try dsimp only at hc);cbv)|(refine AllS.mk fun r hr=> ?_;(try simp only[Dat.ok,Dat.dec,Leaf.ok,Leaf.val,Z0,Z1,Z2,Z3,Z4,Z5,Z6,Z7,Z8,Z9,Z10,Z11,Z12,Z13,Z14,Z15,Z16,Z17,Z18,Z19,Z20,Z21,Z22,val_sl]at hr);cbv)
  all_goals first
   |(dsimp only;rw[Nat.zero_min];rfl)
   |(have hi1:i<1:=hi
     obtain rfl:i=0:=by omega
     dsimp only;rw[Nat.zero_min];rfl)
   |fail
 ·cbv
  repeat' first|(refine Stp.mk ?_;cbv)|(refine Gen.mk fun r hr=> ?_;(try simp only[Dat.ok,Dat.dec,Leaf.ok,Leaf.val,Z0,Z1,Z2,Z3,Z4,Z5,Z6,Z7,Z8,Z9,Z10,Z11,Z12,Z13,Z14,Z15,Z16,Z17,Z18,Z19,Z20,Z21,Z22,val_sl,val_nil]at hr);cbv)|exact trivial|rfl|refine Both.mk ?_ ?_|(refine Imp.mk fun h=> ?_;(try dsimp only at h);(try simp only[nc,Int.toNat_natCast,ne_eq,zz]at h);(try simp only[nc]at h))|refine Ob.mk ?_ ?_|refine Chk.mk (by kernel_rfl) ?_|refine Eq'.mk ?_|(refine AllN.mk fun i hi=> ?_;cbv)|(refine AllC.mk fun c hc hcm=> ?_;(try dsimp only at hc);cbv)|(refine AllS.mk fun r hr=> ?_;(try simp only[Dat.ok,Dat.dec,Leaf.ok,Leaf.val,Z0,Z1,Z2,Z3,Z4,Z5,Z6,Z7,Z8,Z9,Z10,Z11,Z12,Z13,Z14,Z15,Z16,Z17,Z18,Z19,Z20,Z21,Z22,val_sl]at hr);cbv)
  all_goals first
   |(dsimp only;rw[Nat.zero_min];rfl)
   |(have hi1:i<1:=hi
     obtain rfl:i=0:=by omega
     dsimp only;rw[Nat.zero_min];rfl)
   |fail
 have hk9:k≤R.2.1.length:=hk
 have hkk:=hok k
 have lo:= @ops_len R.2.1 (min k p.1.gate.out.length)
 cbv
 repeat' first|(show Stp _;exfalso;first|omega|(exact h ‹_›)|(exact absurd ‹_› h)|(exact Bool.false_ne_true (h.symm.trans (show _=true by assumption))))|(refine Stp.mk ?_;cbv)|(refine Gen.mk fun r hr=> ?_;(try simp only[Dat.ok,Dat.dec,Leaf.ok,Leaf.val,Z0,Z1,Z2,Z3,Z4,Z5,Z6,Z7,Z8,Z9,Z10,Z11,Z12,Z13,Z14,Z15,Z16,Z17,Z18,Z19,Z20,Z21,Z22,val_sl,val_nil]at hr);cbv)|exact trivial|rfl|refine Both.mk ?_ ?_|(refine Imp.mk fun h=> ?_;(try dsimp only at h);(try simp only[nc,Int.toNat_natCast,ne_eq,zz]at h);(try simp only[nc]at h))|refine Ob.mk ?_ ?_|refine Chk.mk (by kernel_rfl) ?_|refine Eq'.mk ?_|(refine AllN.mk fun i hi=> ?_;cbv)|(refine AllC.mk fun c hc hcm=> ?_;(try dsimp only at hc);cbv)|(refine AllS.mk fun r hr=> ?_;(try simp only[Dat.ok,Dat.dec,Leaf.ok,Leaf.val,Z0,Z1,Z2,Z3,Z4,Z5,Z6,Z7,Z8,Z9,Z10,Z11,Z12,Z13,Z14,Z15,Z16,Z17,Z18,Z19,Z20,Z21,Z22,val_sl]at hr);cbv)
 all_goals ((try dsimp only at*);(try simp only[nc,Int.toNat_natCast,ne_eq,zz]at*);(try simp only[nc]at*))
 all_goals try rw[nc]at*
 all_goals try simp only[Dat.dec,Leaf.val,Z0,Z1,Z2,Z3,Z4,Z5,Z6,Z7,Z8,Z9,Z10,Z11,Z12,Z13,Z14,Z15,Z16,Z17,Z18,Z19,Z20,Z21,Z22,val_sl]at*
 all_goals try first
  |exact⟨by omega,by omega⟩
  |(unfold InR;omega)
  |exact⟨Dat.hok fun _=>R.2.1.getD k Dat.d0,hkk (by omega)⟩
  |exact⟨Nat.le_refl _,Nat.le_refl _,by omega,by omega,Nat.le_refl _⟩
  |exact Nat.le_refl _
  |exact⟨rfl,fun i _=>Dat.hok _⟩
  |(have m1:min k p.1.gate.out.length=k:=by omega
    have m2:min (k+1) p.1.gate.out.length=k+1:=by omega
    refine⟨⟨k+1,by omega⟩, ?_, ?_,rfl,by(try dsimp only);omega⟩
    ·cbv
     repeat' first|(refine Stp.mk ?_;cbv)|(refine Gen.mk fun r hr=> ?_;(try simp only[Dat.ok,Dat.dec,Leaf.ok,Leaf.val,Z0,Z1,Z2,Z3,Z4,Z5,Z6,Z7,Z8,Z9,Z10,Z11,Z12,Z13,Z14,Z15,Z16,Z17,Z18,Z19,Z20,Z21,Z22,val_sl,val_nil]at hr);cbv)|exact trivial|rfl|refine Both.mk ?_ ?_|(refine Imp.mk fun h=> ?_;(try dsimp only at h);(try simp only[nc,Int.toNat_natCast,ne_eq,zz]at h);(try simp only[nc]at h))|refine Ob.mk ?_ ?_|refine Chk.mk (by kernel_rfl) ?_|refine Eq'.mk ?_|(refine AllN.mk fun i hi=> ?_;cbv)|(refine AllC.mk fun c hc hcm=> ?_;(try dsimp only at hc);cbv)|(refine AllS.mk fun r hr=> ?_;(try simp only[Dat.ok,Dat.dec,Leaf.ok,Leaf.val,Z0,Z1,Z2,Z3,Z4,Z5,Z6,Z7,Z8,Z9,Z10,Z11,Z12,Z13,Z14,Z15,Z16,Z17,Z18,Z19,Z20,Z21,Z22,val_sl]at hr);cbv)
     all_goals first
      |(dsimp only;rw[ops_len,ops_len,m1,m2];done)
      |fail
    ·cbv
     repeat' first|(refine Stp.mk ?_;cbv)|(refine Gen.mk fun r hr=> ?_;(try simp only[Dat.ok,Dat.dec,Leaf.ok,Leaf.val,Z0,Z1,Z2,Z3,Z4,Z5,Z6,Z7,Z8,Z9,Z10,Z11,Z12,Z13,Z14,Z15,Z16,Z17,Z18,Z19,Z20,Z21,Z22,val_sl,val_nil]at hr);cbv)|exact trivial|rfl|refine Both.mk ?_ ?_|(refine Imp.mk fun h=> ?_;(try dsimp only at h);(try simp only[nc,Int.toNat_natCast,ne_eq,zz]at h);(try simp only[nc]at h))|refine Ob.mk ?_ ?_|refine Chk.mk (by kernel_rfl) ?_|refine Eq'.mk ?_|(refine AllN.mk fun i hi=> ?_;cbv)|(refine AllC.mk fun c hc hcm=> ?_;(try dsimp only at hc);cbv)|(refine AllS.mk fun r hr=> ?_;(try simp only[Dat.ok,Dat.dec,Leaf.ok,Leaf.val,Z0,Z1,Z2,Z3,Z4,Z5,Z6,Z7,Z8,Z9,Z10,Z11,Z12,Z13,Z14,Z15,Z16,Z17,Z18,Z19,Z20,Z21,Z22,val_sl]at hr);cbv)
     all_goals dsimp only
     all_goals first
      |(rw[ops_len,ops_len,m1,m2];done)
      |(rw[m1]at hi ⊢
        rw[m2,ops_snoc,gd_snoc _ _ _ _ hi]
        cases decide (i<(opsV R.2.1 k).length)<;>rfl)
      |fail)
  |(have m:min (k+1) p.1.gate.out.length=min k p.1.gate.out.length:=by omega
    refine⟨⟨k+1,by omega⟩, ?_, ?_,rfl,by(try dsimp only);omega⟩
    ·cbv
     repeat' first|(refine Stp.mk ?_;cbv)|(refine Gen.mk fun r hr=> ?_;(try simp only[Dat.ok,Dat.dec,Leaf.ok,Leaf.val,Z0,Z1,Z2,Z3,Z4,Z5,Z6,Z7,Z8,Z9,Z10,Z11,Z12,Z13,Z14,Z15,Z16,Z17,Z18,Z19,Z20,Z21,Z22,val_sl,val_nil]at hr);cbv)|exact trivial|rfl|refine Both.mk ?_ ?_|(refine Imp.mk fun h=> ?_;(try dsimp only at h);(try simp only[nc,Int.toNat_natCast,ne_eq,zz]at h);(try simp only[nc]at h))|refine Ob.mk ?_ ?_|refine Chk.mk (by kernel_rfl) ?_|refine Eq'.mk ?_|(refine AllN.mk fun i hi=> ?_;cbv)|(refine AllC.mk fun c hc hcm=> ?_;(try dsimp only at hc);cbv)|(refine AllS.mk fun r hr=> ?_;(try simp only[Dat.ok,Dat.dec,Leaf.ok,Leaf.val,Z0,Z1,Z2,Z3,Z4,Z5,Z6,Z7,Z8,Z9,Z10,Z11,Z12,Z13,Z14,Z15,Z16,Z17,Z18,Z19,Z20,Z21,Z22,val_sl]at hr);cbv)
     all_goals first
      |(dsimp only;rw[m];done)
      |fail
    ·cbv
     repeat' first|(refine Stp.mk ?_;cbv)|(refine Gen.mk fun r hr=> ?_;(try simp only[Dat.ok,Dat.dec,Leaf.ok,Leaf.val,Z0,Z1,Z2,Z3,Z4,Z5,Z6,Z7,Z8,Z9,Z10,Z11,Z12,Z13,Z14,Z15,Z16,Z17,Z18,Z19,Z20,Z21,Z22,val_sl,val_nil]at hr);cbv)|exact trivial|rfl|refine Both.mk ?_ ?_|(refine Imp.mk fun h=> ?_;(try dsimp only at h);(try simp only[nc,Int.toNat_natCast,ne_eq,zz]at h);(try simp only[nc]at h))|refine Ob.mk ?_ ?_|refine Chk.mk (by kernel_rfl) ?_|refine Eq'.mk ?_|(refine AllN.mk fun i hi=> ?_;cbv)|(refine AllC.mk fun c hc hcm=> ?_;(try dsimp only at hc);cbv)|(refine AllS.mk fun r hr=> ?_;(try simp only[Dat.ok,Dat.dec,Leaf.ok,Leaf.val,Z0,Z1,Z2,Z3,Z4,Z5,Z6,Z7,Z8,Z9,Z10,Z11,Z12,Z13,Z14,Z15,Z16,Z17,Z18,Z19,Z20,Z21,Z22,val_sl]at hr);cbv)
     all_goals first
      |(dsimp only;rw[m];done)
      |fail)
 all_goals have m:min k p.1.gate.out.length=p.1.gate.out.length:=by omega
 all_goals rw[m,g3]at hr
 all_goals subst hr
 all_goals first
  |exact⟨⟨rfl,fun i _=>Dat.hok _⟩,⟨rfl,fun i _=>Dat.hok _⟩,show _≤_ by dsimp only;omega⟩
  |(refine fin ?_
    unfold eqStr_S
    simp
    done)
  |(exfalso
    exact absurd rfl (by assumption))
  |fail
section
open Go.ChangeShapes Go.WideShapes Go.ChangeAt Go.RowKit Go.Joins Go.Deep
set_option linter.unusedVariables false
theorem tppair_own:ownKnob Tryz.prog.godebug=none:=by kernel_rfl
theorem tppair_tab1 {W:World}(h:laidMetH Tryz.prog Rows.topPairUptoRow.laid W):Lib.TabIs Tryz.prog W "internal/strconv.uint64pow10" .u64 Lib.pow10Tab:=by
 have h2:laidMet Tryz.prog (Rows.topPairUptoRow.laid.drop 2) W:=laidMet.tail (laidMet.tail (h))
 have hT:(Tryz.prog.globals[1]?).map (·.type)=some 268:=by kernel_rfl
 have hz:Lib.pow10Tab=[1,10,100,1000,10000,100000,1000000,10000000,100000000,1000000000,10000000000,100000000000,1000000000000,10000000000000,100000000000000,1000000000000000,10000000000000000,100000000000000000,1000000000000000000,10000000000000000000]:=by decide+kernel
 rw[hz]
 exact Lib.tabIs_of_head (n:=20) (e:=214) (by kernel_rfl) hT (by kernel_rfl) (by kernel_rfl) (by kernel_rfl) (by kernel_rfl) h2
theorem tppair_dom {W:World}(h:laidMetH Tryz.prog Rows.topPairUptoRow.laid W) (hsh:W.ShapedOpen Tryz.prog):Dom W fun _=>False:=by
 have ht:=tppair_tab1 h
 have vlt:∀{n:String}{g:Nat}{cs:Array Value},Tryz.prog.globalNamed n=some g→W.var? Tryz.prog n=some cs→g<W.heap.size:=fun{n g cs} hg hv=>by
  unfold World.var? at hv
  rw[hg]at hv
  rcases Nat.lt_or_ge g W.heap.size with q|q
  ·exact q
  ·simp[Array.getElem?_eq_none q]at hv
 have clt:∀{a:Addr}{v:Value},W.cell? a=some v→a.block<W.heap.size:=fun{a v} hv=>by
  rcases Nat.lt_or_ge a.block W.heap.size with q|q
  ·exact q
  ·simp[World.cell?,Array.getElem?_eq_none q]at hv
 have h0:=cell_of_shapedOpen_int (P:=Tryz.prog) (g:=0) (t:=3) (zero:= #[.int .i64 0]) (k:= .i64) hsh (of_decide_eq_true (by kernel_rfl)) (by kernel_rfl) rfl (by kernel_rfl) (by kernel_rfl) (by kernel_rfl)
 have g1:laidMet Tryz.prog (Rows.topPairUptoRow.laid.drop 5) W:=laidMet.tail (laidMet.tail (laidMet.tail (laidMet.tail (laidMet.tail (h)))))
 have h1:∃t p,W.var? Tryz.prog "strconv.ErrSyntax" =some #[.iface t p]:=by
  have st: "*" ++ "errors.errorString" = "*errors.errorString" :=by decide
  have hr:∀u,Tryz.prog.typeName? 3 u=some "*errors.errorString" →u=293:=fun u hu=>typeName_ptr_named (nm:= "errors.errorString") (by rw[st];kernel_rfl) (by kernel_rfl) (by decide) u (by rw[st];exact hu)
  obtain⟨a,_,h1,_⟩:=laid_sentinel (g:=4) (ti:=208) (tp:=293) (te:=295) (ts:=9) (ms:= #[("Error",299)]) g1 (by kernel_rfl) (by kernel_rfl) Tryz.underlying208 hr Tryz.underlying293 Tryz.underlying295 rfl rfl (by kernel_rfl) (by kernel_rfl) (by kernel_rfl)
  exact⟨_,_,h1⟩
 have g2:laidMet Tryz.prog (Rows.topPairUptoRow.laid.drop 4) W:=laidMet.tail (laidMet.tail (laidMet.tail (laidMet.tail (h))))
 have h2:∃t p,W.var? Tryz.prog "strconv.ErrRange" =some #[.iface t p]:=by
  have st: "*" ++ "errors.errorString" = "*errors.errorString" :=by decide
  have hr:∀u,Tryz.prog.typeName? 3 u=some "*errors.errorString" →u=293:=fun u hu=>typeName_ptr_named (nm:= "errors.errorString") (by rw[st];kernel_rfl) (by kernel_rfl) (by decide) u (by rw[st];exact hu)
  obtain⟨a,_,h1,_⟩:=laid_sentinel (g:=5) (ti:=208) (tp:=293) (te:=295) (ts:=9) (ms:= #[("Error",299)]) g2 (by kernel_rfl) (by kernel_rfl) Tryz.underlying208 hr Tryz.underlying293 Tryz.underlying295 rfl rfl (by kernel_rfl) (by kernel_rfl) (by kernel_rfl)
  exact⟨_,_,h1⟩
 have l3:1<W.heap.size:=by
  have hv:=ht
  unfold Lib.TabIs World.var? at hv
  rw[show Tryz.prog.globalNamed "internal/strconv.uint64pow10" =some 1 by kernel_rfl]at hv
  rcases Nat.lt_or_ge 1 W.heap.size with q|q
  ·exact q
  ·simp[Array.getElem?_eq_none q]at hv
 have m0:0<W.heap.size:=clt h0.choose_spec
 have m1:4<W.heap.size:=(by obtain⟨t,p,e⟩:=h1;exact vlt (g:=4) (by kernel_rfl) e)
 have m2:5<W.heap.size:=(by obtain⟨t,p,e⟩:=h2;exact vlt (g:=5) (by kernel_rfl) e)
 refine⟨fun _ h=>h.elim,fun g hg=>⟨?_,fun h=>h⟩,ht,h0,h1,h2⟩
 simp[Kd.tl,kdI]at hg
 rcases hg with rfl|rfl|rfl|rfl<;>assumption
def tppair_setC (cs:Array Value):Obj→Obj
 | .cells _ t frozen=> .cells cs t frozen
 |o=>o
noncomputable def tppair_low:Nat:=(World.holding Tryz.prog default ⟨#[], #[],[]⟩).heap.size
noncomputable def tppair_laidWorld (os:Os):World:=
 {World.holding Tryz.prog os ⟨#[.cells #[.string ⟨#[118,97,108,117,101,32,111,117,116,32,111,102,32,114,97,110,103,101]⟩] 295,.cells #[.string ⟨#[105,110,118,97,108,105,100,32,115,121,110,116,97,120]⟩] 295], #[],[]⟩with heap:=((((((((World.holding Tryz.prog os ⟨#[.cells #[.string ⟨#[118,97,108,117,101,32,111,117,116,32,111,102,32,114,97,110,103,101]⟩] 295,.cells #[.string ⟨#[105,110,118,97,108,105,100,32,115,121,110,116,97,120]⟩] 295], #[],[]⟩).heap).modify 6 (tppair_setC #[.int .u8 0,.int .u8 1,.int .u8 28,.int .u8 2,.int .u8 29,.int .u8 14,.int .u8 24,.int .u8 3,.int .u8 30,.int .u8 22,.int .u8 20,.int .u8 15,.int .u8 25,.int .u8 17,.int .u8 4,.int .u8 8,.int .u8 31,.int .u8 27,.int .u8 13,.int .u8 23,.int .u8 21,.int .u8 19,.int .u8 16,.int .u8 7,.int .u8 26,.int .u8 12,.int .u8 18,.int .u8 6,.int .u8 11,.int .u8 5,.int .u8 10,.int .u8 9])).modify 7 (tppair_setC #[.int .u8 0,.int .u8 1,.int .u8 56,.int .u8 2,.int .u8 57,.int .u8 49,.int .u8 28,.int .u8 3,.int .u8 61,.int .u8 58,.int .u8 42,.int .u8 50,.int .u8 38,.int .u8 29,.int .u8 17,.int .u8 4,.int .u8 62,.int .u8 47,.int .u8 59,.int .u8 36,.int .u8 45,.int .u8 43,.int .u8 51,.int .u8 22,.int .u8 53,.int .u8 39,.int .u8 33,.int .u8 30,.int .u8 24,.int .u8 18,.int .u8 12,.int .u8 5,.int .u8 63,.int .u8 55,.int .u8 48,.int .u8 27,.int .u8 60,.int .u8 41,.int .u8 37,.int .u8 16,.int .u8 46,.int .u8 35,.int .u8 44,.int .u8 21,.int .u8 52,.int .u8 32,.int .u8 23,.int .u8 11,.int .u8 54,.int .u8 26,.int .u8 40,.int .u8 15,.int .u8 34,.int .u8 20,.int .u8 31,.int .u8 10,.int .u8 25,.int .u8 14,.int .u8 19,.int .u8 9,.int .u8 13,.int .u8 8,.int .u8 7,.int .u8 6])).modify 1 (tppair_setC #[.int .u64 1,.int .u64 10,.int .u64 100,.int .u64 1000,.int .u64 10000,.int .u64 100000,.int .u64 1000000,.int .u64 10000000,.int .u64 100000000,.int .u64 1000000000,.int .u64 10000000000,.int .u64 100000000000,.int .u64 1000000000000,.int .u64 10000000000000,.int .u64 100000000000000,.int .u64 1000000000000000,.int .u64 10000000000000000,.int .u64 100000000000000000,.int .u64 1000000000000000000,.int .u64 10000000000000000000])).modify 3 (tppair_setC #[.int .u8 128,.int .u8 191,.int .u8 160,.int .u8 191,.int .u8 128,.int .u8 159,.int .u8 144,.int .u8 191,.int .u8 128,.int .u8 143,.int .u8 0,.int .u8 0,.int .u8 0,.int .u8 0,.int .u8 0,.int .u8 0,.int .u8 0,.int .u8 0,.int .u8 0,.int .u8 0,.int .u8 0,.int .u8 0,.int .u8 0,.int .u8 0,.int .u8 0,.int .u8 0,.int .u8 0,.int .u8 0,.int .u8 0,.int .u8 0,.int .u8 0,.int .u8 0])).modify 5 (tppair_setC #[.iface 293 (.pointer (some ⟨tppair_low+0,0,none⟩))])).modify 4 (tppair_setC #[.iface 293 (.pointer (some ⟨tppair_low+1,0,none⟩))])).modify 2 (tppair_setC ((Go.Pinned.utf8FirstZ.map fun n:Nat=>Value.int .u8 (n:Int)).toArray))}
theorem tppair_laid_met (os:Os):laidMet Tryz.prog Rows.topPairUptoRow.laid ((tppair_laidWorld os).forCall (fun _ _=>0) ⟨#[], #[.string .empty,.int .i64 0,.slice none 0 0],[]⟩).memory:=
 laidMet_of_run' 8 (by kernel_rfl) (by kernel_rfl)
theorem tppair_reads (os:Os) {H:Type}(enc:TypeId×Value→H):∃places,DataW.whole enc Tryz.prog ((tppair_laidWorld os).forCall (fun _ _=>0) ⟨#[], #[.string .empty,.int .i64 0,.slice none 0 0],[]⟩).memory Tryz.f4.params.toList Rows.topPairSpec.vars false (#[.string .empty,.int .i64 0,.slice none 0 0]:Array Value).toList 8=some ([.lit (.string []),.lit (.int .i64 0),.nil],[],places):=
 ⟨[],by kernel_rfl⟩
theorem tppair_laidOut:laidOutB Tryz.prog=true:=by kernel_rfl
theorem tppair_readOk {ts:Array TypeId}(h:ts.toList.all (fun t=>Tryz.prog.readableRec t&&decide (t<Tryz.prog.types.size))=true):∀t∈ts.toList,Tryz.prog.readableRec t=true∧t<Tryz.prog.types.size:=fun t ht=>by
 have:=List.all_eq_true.1 h t ht
 simpa using this
mutual
theorem tppair_bD {H:Type}:∀d:DataW H,Rows.uptoBulk d=bulkD d
 | .lit l=>by cases l<;>simp[Rows.uptoBulk,bulkD]
 | .nil=>by simp[Rows.uptoBulk,bulkD]
 | .ptr d=>by simp[Rows.uptoBulk,bulkD,tppair_bD d]
 | .slice a b=>by simp[Rows.uptoBulk,bulkD,tppair_bL a,tppair_bL b]
 | .agg a=>by simp[Rows.uptoBulk,bulkD,tppair_bL a]
 | .iface _ d=>by simp[Rows.uptoBulk,bulkD,tppair_bD d]
 | .map e=>by simp[Rows.uptoBulk,bulkD,tppair_bE e]
 | .held _=>by simp[Rows.uptoBulk,bulkD]
theorem tppair_bL {H:Type}:∀d:List (DataW H),Rows.uptoBulkAll d=bulkL d
 |[]=>by simp[Rows.uptoBulkAll,bulkL]
 |d::r=>by simp[Rows.uptoBulkAll,bulkL,tppair_bD d,tppair_bL r]
theorem tppair_bE {H:Type}:∀d:List (Lit×DataW H),Rows.uptoBulkEntries d=bulkE d
 |[]=>by simp[Rows.uptoBulkEntries,bulkE]
 |d::r=>by simp[Rows.uptoBulkEntries,bulkE,tppair_bX d,tppair_bE r]
theorem tppair_bX {H:Type}:∀d:Lit×DataW H,Rows.uptoBulkEntry d=bulkX d
 |(l,d)=>by cases l<;>simp[Rows.uptoBulkEntry,bulkX,tppair_bD d]
end
set_option maxRecDepth 100000 in
theorem tppair_lifted (os:Os) (started:os.Started) (H:Type) (enc:TypeId×Value→H) (F:Stop.Interp):
  ReturnsInHanded {} Tryz.checked os 4 .any ((Rows.OpenSpec.upto Rows.topPairSpec).preRow enc Tryz.prog Tryz.f4 Rows.topPairUptoRow.domain false Rows.topPairUptoRow.laid) (((Rows.OpenSpec.upto Rows.topPairSpec).at F).post enc Tryz.prog Tryz.f4 false true false false):=by
 obtain⟨places,hx⟩:=tppair_reads os enc
 refine returnsInHanded_of_row (C:=Tryz.checked) (s:=Rows.OpenSpec.upto Rows.topPairSpec) tppair_own started (by kernel_rfl) Tryz.func4
  (witness_row_at (enc:=enc) (C:=Tryz.checked) false (tppair_laidWorld os) #[.string .empty,.int .i64 0,.slice none 0 0] rfl (by kernel_rfl) (by kernel_rfl) (by kernel_rfl)
    (OpenSpec.preRow_of_cond 8 hx (by kernel_rfl) (fun k hk=>by cases hk;kernel_rfl) (by kernel_rfl) (tppair_laid_met os))) ?_
 intro W base args ds gs before hval0 hW _ hk0 _ hL hsh9 _
 have hk:=hk0 _ rfl
 show Calls Tryz.prog 4 args W fun e W'=>∃v,e= .returned v∧Rows.topPairSpec.post enc Tryz.prog Tryz.f4 false true false false W args v W'
 have hval:∀(j:Nat) t v,Tryz.f4.params[j]? =some t→args[j]? =some v→Value.okWide Tryz.prog W .any base t v:=hval0
 have hW':=hW
 have hlt:=hW.lt
 obtain⟨p,q,hA0,hV,rfl,hfz,hnd⟩:=hW
 have hA:DataW.TrodAll enc Tryz.prog W 0 (fun _=>true) true Tryz.f4.params.toList args.toList ds p:=hA0
 have hA1:=hA
 rw[Tryz.params4]at hA hval
 obtain⟨v0,vs0,d0,ds0,p0,q0,hargs,rfl,rfl,h0,r0⟩:=trodAll_cons hA
 obtain⟨v1,vs1,d1,ds1,p1,q1,rfl,rfl,rfl,h1,r1⟩:=trodAll_cons r0
 obtain⟨v2,vs2,d2,ds2,p2,q2,rfl,rfl,rfl,h2,r2⟩:=trodAll_cons r1
 obtain⟨rfl,rfl,rfl⟩:=trodAll_nil r2
 obtain rfl:args= #[v0,v1,v2]:=by cases args;simp_all
 obtain⟨rfl,rfl⟩:=trodVars_none hV
 obtain⟨z0,rfl⟩:=okWide_string Tryz.underlying9 (hval 0 9 v0 rfl rfl)
 obtain⟨y0,u0,b0,e0⟩:=arg_leaf (α:=ByteArray) (opn_str Tryz.underlying9) rfl h0
 obtain⟨z1,rfl⟩:=okWide_int Tryz.underlying3 (hval 1 3 v1 rfl rfl)
 obtain⟨y1,u1,b1,e1⟩:=arg_leaf (α:=Int) (opn_int Tryz.underlying3) rfl h1
 obtain⟨z2,z'2,z''2,rfl⟩:=okWide_slice Tryz.underlying57 (hval 2 57 v2 rfl rfl)
 obtain⟨y2,u2,b2,e2⟩:=arg_leaf (α:=(List PairAct)) (opn_slice Tryz.underlying57 (by kernel_rfl) (by decide) opn_PairAct) rfl h2
 have hB:Siz.bulk y0+Siz.bulk y1+Siz.bulk y2≤1048576:=by
  have h:=of_decide_eq_true hk
  rw[tppair_bL]at h
  simp only[List.append_nil,bulkL]at h
  omega
 have hR:=repL_cons (M:=fun _=>False) (β:=fun _=>none) (cp:=fun _=>0) (.c e0) (repL_cons (M:=fun _=>False) (β:=fun _=>none) (cp:=fun _=>0) (.c e1) (repL_cons (M:=fun _=>False) (β:=fun _=>none) (cp:=fun _=>0) (.c e2) (repL_nil)))
 refine(law_callsA (tppair_vc y0 y1 y2 u0 u1 u2 hB) hR (tppair_dom hL hsh9)).mono fun e W' ⟨he,bel⟩=> ?_
 subst he
 exact⟨_,rfl,_,_,_,[],_,[],hW',trodAll_mk1 (shut_bool Tryz.underlying4 _),trodAll_below tppair_laidOut bel (tppair_readOk (by kernel_rfl)) (fun x hx=>hlt x (List.mem_append_left _ hx)) hA1,rfl,bel.frame _,fun h=>by cases h⟩
theorem tppair_bare:Rows.TopPairUptoSaid:=
 OpenClaim.holds_of_cond 4 Tryz.f4 rfl rfl rfl rfl rfl rfl rfl ⟨rfl,rfl,rfl,rfl,rfl⟩ rfl rfl rfl rfl rfl (by kernel_rfl) Tryz.func4 (by kernel_rfl)
  (of_decide_eq_true (by kernel_rfl)) (by unfold Func.isWrapper;first|(rw[if_pos (by decide+kernel)];kernel_rfl)|(rw[if_neg (by decide+kernel)];exact⟨rfl,rfl⟩))
  (fun os started H enc _ F=>by rw[OpenClaim.pre_eq_preRow];exact tppair_lifted os started H enc F)
theorem tppair_plain (f:FuncId) (fn:Func) (hf:Tryz.pinned.checked.prog.funcNamed "dutyroster/dutytop.TopPair" =some f) (hfn:Tryz.pinned.checked.prog.funcs[f]? =some fn):
  true=Tryz.pinned.checked.prog.looks []∧∀(j:Nat) t,fn.params[j]? =some t→Tryz.pinned.checked.prog.wantsStandIn t=false:=by
 obtain rfl:f=4:=Option.some.inj ((show Tryz.prog.funcNamed "dutyroster/dutytop.TopPair" =some 4 by kernel_rfl).symm.trans hf) |>.symm
 obtain rfl:fn=Tryz.f4:=(Option.some.inj (Tryz.func4.symm.trans hfn)).symm
 refine⟨by kernel_rfl,fun j t ht=> ?_⟩
 rw[Tryz.params4]at ht
 have hm:=Array.mem_of_getElem? ht
 simp at hm
 rcases hm with rfl|rfl|rfl
 all_goals (show Tryz.prog.wantsStandIn _=false;kernel_rfl)
set_option maxRecDepth 100000 in
theorem TopPair_proved:Rows.TopPairUptoCardSaid:=
 Claim7.holds_tied_plain_at .later [] _ _ _ _ tppair_bare (fun _ h=>by cases h) (by kernel_rfl) (fun _ h=>by cases h) topPairUpto_row_tie rfl ⟨rfl,rfl⟩ (by kernel_rfl) rfl tppair_plain (by kernel_rfl)
end
end Go.Proofs.YtiaiifcgbjlfoaaGreatDoor
