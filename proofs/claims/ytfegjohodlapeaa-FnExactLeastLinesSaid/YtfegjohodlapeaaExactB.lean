/- The exact laws on breaks and lines: their walks. -/
import Derived.Test.YtfegjohodlapeaaFit
import Derived.Test.YtfegjohodlapeaaMark
namespace Go.Proofs.Ytfegjohodlapeaa
open Go.RowKit
set_option linter.unusedVariables false
set_option linter.unusedSimpArgs false
set_option maxHeartbeats 1000000
attribute [local irreducible] W WL QV ST RV Th Bl fnPost Cs Bx pp ea Calls

theorem laws_eqItemST (A B : Option Addr) (c d : Nat) (xs : List Item) (w : World) (hS : Sl w A 6 encT xs) (hT : Sl w B 6 encT xs) (hl : xs.length ≤ 1048576) :
    Calls Try.prog 18 #[.slice A xs.length c, .slice B xs.length d] w fun e w' => e = .returned (.bool true) ∧ Gr w w' := by
  have := laws_eqItemS A B c d xs xs w hS hT hl hl
  simpa using this
theorem laws_eqIntST (A B : Option Addr) (c d : Nat) (xs : List Int) (w : World) (hS : Sl w A 1 encI xs) (hT : Sl w B 1 encI xs) (hl : xs.length ≤ 1048576) :
    Calls Try.prog 19 #[.slice A xs.length c, .slice B xs.length d] w fun e w' => e = .returned (.bool true) ∧ Gr w w' := by
  have := laws_eqIntS A B c d xs xs w hS hT (by omega) (by omega)
  simpa using this
theorem laws_eqGlueT (g : Glue) (w : World) :
    Calls Try.prog 66 #[vG g, vG g] w fun e w' => e = .returned (.bool true) ∧ Gr w w' := by
  have := laws_eqGlue g g w
  simpa using this

end Go.Proofs.Ytfegjohodlapeaa
