/- pair: an act. -/
import Derived.Test.YtiaiifcgbjlfoaaGreatDoorPairW2
import Derived.Test.YtiaiifcgbjlfoaaGreatDoorPairW3
import Derived.Test.YtiaiifcgbjlfoaaGreatDoorPairW4
import Derived.Test.YtiaiifcgbjlfoaaGreatDoorPairW6
import Derived.Test.YtiaiifcgbjlfoaaGreatDoorPairWR
set_option linter.all false
namespace Go.Proofs.YtiaiifcgbjlfoaaGreatDoor
open Go Go.Abs
theorem act_vc (code:List Ins) (n:Int) (c:Nat) (p:Pair) (a:PairAct) (hc:checkP code=0) (hP:PrOk code n c p) (hn:n≤4) (hcc:c<100) (R:Pair×Int) (hR:actA code p a=R):
  FnOk Tryz.prog 48 [.ptr 0 0,.agg [.i .i64 fun _=>a.kind,.i .i64 fun _=>a.who,.i .i64 fun _=>a.n]] (prO code fun _=>p) (outLe 4 (.i .i64 fun _=>R.2) (prO code fun _=>R.1) [1,2,3]):=by
 by_cases h2:a.kind=2
 ·exact act_vc2 code n c p a hc hP hn hcc h2 R hR
 by_cases h3:a.kind=3
 ·exact act_vc3 code n c p a hc hP hn hcc h3 R hR
 by_cases h4:a.kind=4
 ·exact act_vc4 code n c p a hc hP hn hcc h4 R hR
 by_cases h6:a.kind=6
 ·exact act_vc6 code n c p a hc hP hn hcc h6 R hR
 exact act_vcR code n c p a hc hP hn hcc (by omega) R hR
end Go.Proofs.YtiaiifcgbjlfoaaGreatDoor
