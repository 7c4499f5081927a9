/- The exact laws' own helpers on items: size, copy, comparison. -/
import Derived.Test.YtncgflkkmccadaaItem
import Derived.Test.YtncgflkkmccadaaExactA
namespace Go.Proofs.Ytncgflkkmccadaa
open Go.RowKit
set_option linter.unusedVariables false
set_option linter.unusedSimpArgs false
set_option maxHeartbeats 1000000
attribute [local irreducible] W WL QV ST RV Th Bl fnPost Cs Bx pp ea Calls

theorem take_snoc {α : Type} {xs : List α} {i : Nat} {x : α} (hx : xs[i]? = some x) : xs.take (i + 1) = xs.take i ++ [x] := by
  rw [List.take_add_one, hx]; rfl

theorem splice_take {cs vl : List Value} {i : Nat} (h : i ≤ cs.length) : (splice cs i vl).take (i + vl.length) = cs.take i ++ vl := by
  unfold splice
  rw [List.take_append_of_le_length (by simp; omega), List.take_of_length_le (by simp; omega)]

theorem splice_len {cs vl : List Value} {i : Nat} (h : i + vl.length ≤ cs.length) : (splice cs i vl).length = cs.length := by
  unfold splice; simp; omega

theorem fill_step {α : Type} {enc : α → List Value} {sz : Nat} {xs : List α} {cs : List Value} {i : Nat} {x : α} (hs : (enc x).length = sz) (hx : xs[i]? = some x) (hc : i * sz + sz ≤ cs.length) (h : cs.take (i * sz) = (xs.take i).flatMap enc) :
    (splice cs (i * sz) (enc x)).take ((i + 1) * sz) = (xs.take (i + 1)).flatMap enc := by
  have := splice_take (cs := cs) (vl := enc x) (i := i * sz) (by omega)
  rw [hs] at this
  rw [Nat.succ_mul, this, h, take_snoc hx]
  simp

end Go.Proofs.Ytncgflkkmccadaa
