/- The program's functions, walked: GateP. -/
import Derived.Test.YtiaiifcgbjlfoaaGreatDoorGate
set_option linter.all false
namespace Go.Proofs.YtiaiifcgbjlfoaaGreatDoor
open Go Go.Abs
theorem runG_app:∀{l m:List GateOp}{g:Gate},runG g (l++m)=runG (runG g l) m
 |[],_,_=>rfl
 |_::r,m,_=>by rw[List.cons_append,runG,runG_app (l:=r),runG]
theorem claimS_ok {f:Fence}{w n:Int}(h:(claimS f w n).2.2=0):mayV f w n=0:=by
 unfold claimS at h
 split at h
 ·assumption
 ·rename_i h1;exact absurd h h1
theorem mayV_ok {f:Fence}{w n:Int}(h:mayV f w n=0):chB f=true∧whoB w=true∧epB n=true:=by
 unfold mayV at h
 split at h
 ·rename_i h1
  split at h
  ·rename_i h2;simp at h2;exact⟨h1,h2.1,h2.2⟩
  ·cases h
 ·cases h
theorem wrongG_ok {g:Gate}{x:Give}(h:wrongG g x=0):(passS g.fence x.who x.epoch)=(true,0)∧x.text.size≤1000∧0≤x.num∧x.num≤g.out.length∧(x.num<g.out.length→g.out.getD x.num.toNat Dat.d0=x.text)∧x.num≠1000:=by
 unfold wrongG at h
 split at h
 ·rename_i h1
  split at h
  ·rename_i h2
   split at h
   ·cases h
   ·rename_i h3
    split at h
    ·cases h
    ·split at h
     ·cases h
     ·split at h
      ·cases h
      ·rename_i h6
       split at h
       ·cases h
       ·refine⟨Prod.ext h2 h1, ?_,by omega,by omega,fun h7=> ?_,by assumption⟩
        ·have:=h3;unfold longB at this;simp at this;omega
        ·exact Classical.byContradiction fun h8=>h6 ⟨h7,h8⟩
  ·cases h
 ·rename_i h1;exact absurd h h1
theorem handG_ok {g:Gate}{x:Give}(h:(handG g x).2.2=0):checkG g=0∧wrongG g x=0∧((x.num<g.out.length∧handG g x=(g,false,0))∨(x.num=g.out.length∧handG g x=(⟨g.fence,g.out++[x.text]⟩,true,0))):=by
 have h0:handE g x=0:=by
  unfold handG at h
  split at h
  ·assumption
  ·rename_i h1;exact absurd h h1
 have h1:checkG g=0∧wrongG g x=0:=by
  unfold handE at h0
  split at h0
  ·exact⟨by assumption,h0⟩
  ·rename_i h1;exact absurd h0 h1
 obtain⟨-,-,a1,a2,-⟩:=wrongG_ok h1.2
 refine⟨h1.1,h1.2, ?_⟩
 rw[handG,if_pos h0]
 split
 ·rename_i h2;exact .inl ⟨h2,rfl⟩
 ·exact .inr ⟨by omega,rfl⟩
end Go.Proofs.YtiaiifcgbjlfoaaGreatDoor
