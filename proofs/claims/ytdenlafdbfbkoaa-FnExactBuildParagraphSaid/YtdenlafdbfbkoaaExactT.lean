/- The exact law on patterns: its walk. -/
import Derived.Test.YtdenlafdbfbkoaaPat
import Derived.Test.YtdenlafdbfbkoaaMarkS
import Derived.Test.YtdenlafdbfbkoaaMarkT
namespace Go.Proofs.Ytdenlafdbfbkoaa
open Go.RowKit
set_option linter.unusedVariables false
set_option linter.unusedSimpArgs false
set_option maxHeartbeats 1000000
attribute [local irreducible] W WL QV ST RV Th Bl fnPost Cs Bx pp ea Calls
set_option maxRecDepth 100000

theorem laws_eqIntSP (A B : Option Addr) (c d : Nat) (xs : List Int) (w : World) (hS : Sl w A 1 encI xs) (hT : Sl w B 1 encI xs) (hl : xs.length ≤ 1048576) :
    Calls Try.prog 44 #[.slice A xs.length c, .slice B xs.length d] w fun e w' => e = .returned (.bool true) ∧ Gr w w' := by
  have := laws_eqIntS A B c d xs xs w hS hT (by omega) (by omega)
  simpa using this

end Go.Proofs.Ytdenlafdbfbkoaa
