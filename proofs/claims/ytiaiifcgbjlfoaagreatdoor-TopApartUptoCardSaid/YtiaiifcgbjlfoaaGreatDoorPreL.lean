/- Arguments and objects of which more is known. -/
import Derived.Test.YtiaiifcgbjlfoaaGreatDoorTy
import Derived.Test.YtiaiifcgbjlfoaaGreatDoorAbsG4
set_option linter.all false
namespace Go.Proofs.YtiaiifcgbjlfoaaGreatDoor
open Go Go.Abs
theorem qYy {P:Program}{f:FuncId}{A A':List AV}{H H':Hp}{K:qBm}(h:qO P f A' H' K) (he:H.length=H'.length) (hA:leL H'.length A A') (hH:leH H H'):qO P f A H K:=by
 intro w M β cp vs hh hA0
 have hβ:cut H'.length β=β:=funext fun b=>by
  unfold cut
  split
  ·rfl
  ·exact(hh.out b (by omega)).symm
 have h2:=qDV hh hH
 have h3:=qAq H'.length A A' _ hA0 hA
 rw[hβ]at h2 h3
 have hb:∀k,qAL w β H' k→qAL w β H k:=by
  rintro k ⟨b,o,g,hb1,hb2,hb3,hb4⟩
  unfold leH at hH
  rcases qDf hH b o hb1 with⟨x,hx,hxo⟩|⟨hlen,_⟩
  ·exact⟨b,x,g,hx,qDg hxo hb2,hb3,qDh x o (hh.obj b x hx) hb3 hxo hb4⟩
  ·rw[hh.out b hlen]at hb3;cases hb3
 refine(h w M β cp vs h2 h3).mono ?_
 rintro e w' ⟨v,r,H2,kl,M',β',cp',rfl,hK,hh',hak,hrep⟩
 exact⟨v,r,H2,kl,M',β',cp',rfl,hK,hh',⟨hak.keep,hak.bk,⟨hak.ext.os,hak.ext.tape,hak.ext.output,hak.ext.size,fun k hk hB=>hak.ext.block k hk fun h=>hB (hb k h),fun k hk hB=>hak.ext.sub k hk fun h=>hB (hb k h),hak.ext.new⟩,fun g hg=>(hak.own g hg).imp (hb g) id⟩,hrep⟩
end Go.Proofs.YtiaiifcgbjlfoaaGreatDoor
