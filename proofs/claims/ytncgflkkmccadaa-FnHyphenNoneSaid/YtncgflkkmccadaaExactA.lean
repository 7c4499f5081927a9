/- The exact laws on glue, badness and demerits: their walks. -/
import Derived.Test.YtncgflkkmccadaaGlue
namespace Go.Proofs.Ytncgflkkmccadaa
open Go.RowKit
set_option linter.unusedVariables false
set_option linter.unusedSimpArgs false
set_option maxHeartbeats 1000000
attribute [local irreducible] W WL QV ST RV Th Bl fnPost Cs Bx pp ea Calls

end Go.Proofs.Ytncgflkkmccadaa
