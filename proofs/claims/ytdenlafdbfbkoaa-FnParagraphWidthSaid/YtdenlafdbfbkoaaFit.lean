/- Contracts of the exported functions on lines, and of valid breaks. -/
import Derived.Test.YtdenlafdbfbkoaaGlueL
namespace Go.Proofs.Ytdenlafdbfbkoaa
open Go.RowKit
set_option linter.unusedVariables false
set_option linter.unusedSimpArgs false
set_option maxHeartbeats 1000000
attribute [local irreducible] W WL QV ST RV Th Bl fnPost Cs Bx pp ea Calls

theorem impl_LineGlue (A : Option Addr) (c : Nat) (xs : List Item) (f t : Int) (w : World) (hS : Sl w A 6 encT xs) (hc : xs.length ≤ c) (hl : xs.length ≤ 1048576) :
    Calls Try.prog 22 #[.slice A xs.length c, .int .i64 f, .int .i64 t] w fun e w' => e = .returned (.tuple #[vG (lineGlueR xs f t).1, .bool (lineGlueR xs f t).2]) ∧ Gr w w' := by
  cases hv : vItems xs
  · have e1 : lineGlueR xs f t = (Glue.zero, false) := by simp [lineGlueR, hv]
    rw [e1]
    refine calls_W Try.func22 rfl Try.ntmps22 rfl ?_
    repeat' (first | refine wl_nil ?_ | refine Th_normal ?_ | refine W_seq ?_ | refine W_region ?_ | refine W_condT rfl ?_ | refine W_condF rfl ?_ | refine W_block ?_ | refine W_ret ?_ | refine W_exit ?_ | refine W_skip ?_ | refine Th_ret ?_ | refine Th_exit ?_ | refine Bl_normal ?_ | refine Bl_ret ?_ | refine Bl_exit rfl ?_ | refine Bl_pass rfl ?_ | refine W_condB rfl (fun tt => ?_) (fun tt => ?_) | (show fnPost _ _ _ _ _ _ _; refine fret (rvCT rfl rfl rfl Cs.A (by rfl)) ?_) | (show WL _ _ _ _ _ _ _; first | (refine wl_do (op := .call { callee := .value (.func 19), args := _, argTypes := _ }) rfl rfl ?_; refine st_callV Try.func19 rfl rfl rfl (impl_ValidItemsE _ _ _ _ _ (hS.gr Gr.A) hv) (fun w1 g1 z1 => ?_)) | refine wl_val rfl rfl (q_pv rfl) ?_ | refine wl_skip rfl rfl ?_ | refine wl_val rfl rfl (q_build rfl rfl) ?_ | (refine wl_do rfl rfl ?_; first | refine st_alloc (fun b w1 e1 g1 z1 f1 => ?_) | refine st_store rfl rfl rfl rfl rfl rfl Bx.A (by first | rfl | (rw [Nat.ble_eq]; simp; omega)) (fun w1 g1 z1 f1 => ?_))))
    exact ⟨rfl, Gr.A⟩
  · cases hk : lineOk xs f t
    · have e1 : lineGlueR xs f t = (Glue.zero, false) := by simp [lineGlueR, hv, hk]
      rw [e1]
      refine calls_W Try.func22 rfl Try.ntmps22 rfl ?_
      repeat' (first | refine wl_nil ?_ | refine Th_normal ?_ | refine W_seq ?_ | refine W_region ?_ | refine W_condT rfl ?_ | refine W_condF rfl ?_ | refine W_block ?_ | refine W_ret ?_ | refine W_exit ?_ | refine W_skip ?_ | refine Th_ret ?_ | refine Th_exit ?_ | refine Bl_normal ?_ | refine Bl_ret ?_ | refine Bl_exit rfl ?_ | refine Bl_pass rfl ?_ | refine W_condB rfl (fun tt => ?_) (fun tt => ?_) | (show fnPost _ _ _ _ _ _ _; refine fret (rvCT rfl rfl rfl Cs.A (by rfl)) ?_) | (show WL _ _ _ _ _ _ _; first | (refine wl_do (op := .call { callee := .value (.func 19), args := _, argTypes := _ }) rfl rfl ?_; refine st_callV Try.func19 rfl rfl rfl (impl_ValidItemsE _ _ _ _ _ (hS.gr Gr.A) hv) (fun w1 g1 z1 => ?_)) | (refine wl_do (op := .call { callee := .value (.func 68), args := _, argTypes := _ }) rfl rfl ?_; refine st_callV Try.func68 rfl rfl rfl (impl_isLine _ _ _ _ _ _ _ (hS.gr Gr.A) hl hc hk) (fun w1 g1 z1 => ?_)) | refine wl_val rfl rfl (q_pv rfl) ?_ | refine wl_skip rfl rfl ?_ | refine wl_val rfl rfl (q_build rfl rfl) ?_ | (refine wl_do rfl rfl ?_; first | refine st_alloc (fun b w1 e1 g1 z1 f1 => ?_) | refine st_store rfl rfl rfl rfl rfl rfl Bx.A (by first | rfl | (rw [Nat.ble_eq]; simp; omega)) (fun w1 g1 z1 f1 => ?_))))
      exact ⟨rfl, Gr.A⟩
    · have e1 : lineGlueR xs f t = (lnGlue xs f t, true) := by simp [lineGlueR, hv, hk]
      rw [e1]
      obtain ⟨h1, h0, h2, _⟩ := lineOk_iff.1 hk
      refine calls_W Try.func22 rfl Try.ntmps22 rfl ?_
      repeat' (first | refine wl_nil ?_ | refine Th_normal ?_ | refine W_seq ?_ | refine W_region ?_ | refine W_condT rfl ?_ | refine W_condF rfl ?_ | refine W_block ?_ | refine W_ret ?_ | refine W_exit ?_ | refine W_skip ?_ | refine Th_ret ?_ | refine Th_exit ?_ | refine Bl_normal ?_ | refine Bl_ret ?_ | refine Bl_exit rfl ?_ | refine Bl_pass rfl ?_ | refine W_condB rfl (fun tt => ?_) (fun tt => ?_) | (show fnPost _ _ _ _ _ _ _; refine fret (rvCT rfl rfl rfl Cs.A (by rfl)) ?_) | (show WL _ _ _ _ _ _ _; first | (refine wl_do (op := .call { callee := .value (.func 19), args := _, argTypes := _ }) rfl rfl ?_; refine st_callV Try.func19 rfl rfl rfl (impl_ValidItemsE _ _ _ _ _ (hS.gr Gr.A) hv) (fun w1 g1 z1 => ?_)) | (refine wl_do (op := .call { callee := .value (.func 68), args := _, argTypes := _ }) rfl rfl ?_; refine st_callV Try.func68 rfl rfl rfl (impl_isLine _ _ _ _ _ _ _ (hS.gr Gr.A) hl hc hk) (fun w1 g1 z1 => ?_)) | (refine wl_do (op := .call { callee := .value (.func 69), args := _, argTypes := _ }) rfl rfl ?_; refine st_callV Try.func69 rfl rfl rfl (impl_lineGlue _ _ _ _ _ _ (hS.gr Gr.A) hc hv h0 h1 h2) (fun w1 g1 z1 => ?_)) | refine wl_val rfl rfl (q_pv rfl) ?_ | refine wl_skip rfl rfl ?_ | refine wl_val rfl rfl (q_build rfl rfl) ?_ | (refine wl_do rfl rfl ?_; first | refine st_alloc (fun b w1 e1 g1 z1 f1 => ?_) | refine st_store rfl rfl rfl rfl rfl rfl Bx.A (by first | rfl | (rw [Nat.ble_eq]; simp; omega)) (fun w1 g1 z1 f1 => ?_))))
      exact ⟨rfl, Gr.A⟩

end Go.Proofs.Ytdenlafdbfbkoaa
