/- pairs: one that lives; what a program lets out; a begin. -/
import Derived.Test.YtiaiifcgbjlfoaaGreatDoorPairX
import Derived.Test.YtiaiifcgbjlfoaaGreatDoorAbsG4
set_option linter.all false
namespace Go.Proofs.YtiaiifcgbjlfoaaGreatDoor
open Go Go.Abs
theorem runV_okE {code:List Ins}{v:Vm}{log:List Int}{f:Int}:∀e∈(runV code v log f).2.1,okE e:=by
 by_cases h:errV code v log f=0
 ·obtain⟨h1,-⟩:=err_iff.1 h
  have O:=out_run h1 f.toNat _ (inv0 h) (fun e he=>absurd he List.not_mem_nil)
  rw[runV_of h]
  exact fun e he=>okM_E (O e he)
 ·rw[runV_z h];exact fun e he=>absurd he List.not_mem_nil
end Go.Proofs.YtiaiifcgbjlfoaaGreatDoor
