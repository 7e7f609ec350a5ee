/- The program's functions, walked: Supply2. -/
import Derived.Test.YthgmnejlhljlaaaSupP
set_option linter.all false
namespace Go.Proofs.Ythgmnejlhljlaaa
open Go Go.Abs

end Go.Proofs.Ythgmnejlhljlaaa
