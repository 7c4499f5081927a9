/- Contracts of the functions on items of a paragraph. -/
import Derived.Test.YtncgflkkmccadaaGlue
import Derived.Test.YtncgflkkmccadaaEnc
import Derived.Test.YtncgflkkmccadaaPln
namespace Go.Proofs.Ytncgflkkmccadaa
open Go.RowKit
set_option linter.unusedVariables false
set_option linter.unusedSimpArgs false
set_option maxHeartbeats 1000000
attribute [local irreducible] W WL QV ST RV Th Bl fnPost Cs Bx pp ea Calls

end Go.Proofs.Ytncgflkkmccadaa
