/- More generators: costs of lines, first fit. -/
import Derived.Test.YtfegjohodlapeaaDrawI
namespace Go.Proofs.Ytfegjohodlapeaa
open Go.RowKit
set_option linter.unusedVariables false
set_option linter.unusedSimpArgs false
set_option maxHeartbeats 1000000
attribute [local irreducible] W WL QV ST RV Th Bl fnPost Cs Bx pp ea Calls

end Go.Proofs.Ytfegjohodlapeaa
