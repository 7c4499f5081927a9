/- The contract of turning a list of numbers round. -/
import Derived.Test.YtdenlafdbfbkoaaEnc
namespace Go.Proofs.Ytdenlafdbfbkoaa
open Go.RowKit
set_option linter.unusedVariables false
set_option linter.unusedSimpArgs false

/-- The first and the last i elements changed over. -/
def revI (xs : List Int) (i : Nat) : List Int := (List.range xs.length).map fun j => if j < i ∨ xs.length ≤ j + i then xs.getD (xs.length - 1 - j) 0 else xs.getD j 0

theorem revI_len (xs : List Int) (i : Nat) : (revI xs i).length = xs.length := by simp [revI]
theorem revI_get {xs : List Int} {i j : Nat} (h : j < xs.length) : (revI xs i)[j]? = some (if j < i ∨ xs.length ≤ j + i then xs.getD (xs.length - 1 - j) 0 else xs.getD j 0) := by
  simp [revI, h]
theorem revI_zero (xs : List Int) : revI xs 0 = xs := by
  apply List.ext_getElem?
  intro j
  by_cases h : j < xs.length
  · rw [revI_get h, if_neg (by omega), List.getD_eq_getElem?_getD, List.getElem?_eq_getElem h]; rfl
  · rw [List.getElem?_eq_none (by rw [revI_len]; omega), List.getElem?_eq_none (by omega)]
theorem revI_end {xs : List Int} {i : Nat} (h : xs.length ≤ 2 * i + 1) : revI xs i = xs.reverse := by
  apply List.ext_getElem?
  intro j
  by_cases hj : j < xs.length
  · rw [revI_get hj, List.getElem?_reverse hj, List.getElem?_eq_getElem (by omega)]
    by_cases hm : j < i ∨ xs.length ≤ j + i
    · rw [if_pos hm, List.getD_eq_getElem?_getD, List.getElem?_eq_getElem (by omega)]; rfl
    · have : j = xs.length - 1 - j := by omega
      rw [if_neg hm, List.getD_eq_getElem?_getD, List.getElem?_eq_getElem hj]
      simp only [Option.getD_some]
      congr 2
  · rw [List.getElem?_eq_none (by rw [revI_len]; omega), List.getElem?_eq_none (by simp; omega)]
theorem revI_step {xs : List Int} {i : Nat} (h : 2 * i + 1 < xs.length) : ((revI xs i).set i (xs.getD (xs.length - 1 - i) 0)).set (xs.length - 1 - i) (xs.getD i 0) = revI xs (i + 1) := by
  apply List.ext_getElem?
  intro j
  by_cases hj : j < xs.length
  · rw [revI_get hj]
    by_cases h1 : j = xs.length - 1 - i
    · subst h1
      rw [List.getElem?_set_self (by simp [revI_len]; omega), if_pos (by omega)]
      congr 2; omega
    · rw [List.getElem?_set_ne (by omega)]
      by_cases h2 : j = i
      · subst h2
        rw [List.getElem?_set_self (by simp [revI_len]; omega), if_pos (by omega)]
      · rw [List.getElem?_set_ne (by omega), revI_get hj]
        by_cases h3 : j < i ∨ xs.length ≤ j + i
        · rw [if_pos h3, if_pos (by omega)]
        · rw [if_neg h3, if_neg (by omega)]
  · rw [List.getElem?_eq_none (by simp [revI_len]; omega), List.getElem?_eq_none (by rw [revI_len]; omega)]

section
variable {P : Program} {n : Nat} {s : St} {w : World} {Q : Exit → St → World → Prop} {l : List Oper}
theorem wh_beginT {id : Nat} (hm : P.follows .mixedOrders = true)
    (h : ∀ w1, Gr w w1 → w.heap.size = w1.heap.size → WH P n l.toArray Q (fun _ => True) l.toArray.size (Array.replicate l.toArray.size false) s w1) : W P n (.region id l.toArray true) Q s w := fun a ha =>
  wp_region_held hm (h w.drew (Gr.drew w) rfl a ha)
theorem wi_beginT {id : Nat} (t : Sc) (hm : P.follows .mixedOrders = true)
    (h : ∀ w1, Gr w w1 → w.heap.size = w1.heap.size → WI t P n l.toArray Q (fun _ => True) l.toArray.size (Array.replicate l.toArray.size false) s w1) : W P n (.region id l.toArray true) Q s w := by
  unfold WI at h
  exact wh_beginT hm h
theorem st_val {o : Oper} {v : Value} {K : Value → World → Prop} (hq : QV P n s w o v) (h : K v w) : ST P n s w o K := fun a ha KA QA hK => by
  unfold Oper.wp
  rw [hq a ha]
  exact hK _ _ h
end

theorem Bx.ap {α : Type} {w w' : World} {base : Nat} {e : TypeId} {sz : Nat} {enc : α → List Value} {A : Option Addr} {c b : Nat} {xs : List α} {cs : List Value} (hO : Ow w base e sz enc A c xs) (hb : b < base) (k : w.grownBy w' (A.map (·.block))) (h : Bx w b cs) : Bx w' b cs := by
  cases A with
  | none => exact h.gr (Gr.grown k)
  | some ad => exact h.mv (c := ad.block) k (by have := (hO.block ad rfl).1; omega)

set_option maxHeartbeats 1000000
attribute [local irreducible] W WL QV ST RV Th Bl fnPost Cs Bx pp ea Calls
set_option maxRecDepth 100000

end Go.Proofs.Ytdenlafdbfbkoaa
