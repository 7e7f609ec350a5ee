/- The program's functions, walked: Bs. -/
import Derived.Test.YtiaiifcgbjlfoaaGreatDoorTy
set_option linter.all false
namespace Go.Proofs.YtiaiifcgbjlfoaaGreatDoor
open Go Go.Abs
def bs (p:Int→Bool):Nat→Int→Int→Int
 |0,lo,_=>lo
 |f+1,lo,hi=>if lo<hi then(if p ((lo+hi)/2)=true then bs p f lo ((lo+hi)/2)else bs p f ((lo+hi)/2+1) hi)else lo
end Go.Proofs.YtiaiifcgbjlfoaaGreatDoor
