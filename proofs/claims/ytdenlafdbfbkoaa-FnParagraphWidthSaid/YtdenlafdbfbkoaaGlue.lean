/- Contracts of the functions on glue and badness. -/
import Derived.Test.YtdenlafdbfbkoaaLib
import Derived.Test.YtdenlafdbfbkoaaTy
namespace Go.Proofs.Ytdenlafdbfbkoaa
open Go.RowKit
set_option linter.unusedVariables false
set_option linter.unusedSimpArgs false
set_option maxHeartbeats 1000000
attribute [local irreducible] W WL QV ST RV Th Bl fnPost Cs Bx pp ea Calls

theorem impl_within (a b c : Int) (w : World) :
    Calls Try.prog 57 #[.int .i64 a, .int .i64 b, .int .i64 c] w fun e w' => e = .returned (.bool (inR a b c)) ∧ w = w' := by
  refine calls_W Try.func57 rfl Try.ntmps57 rfl ?_
  repeat' (first | refine wl_nil ?_ | refine Th_normal ?_ | refine W_seq ?_ | refine W_region ?_ | refine W_condT rfl ?_ | refine W_condF rfl ?_ | refine W_block ?_ | refine W_ret ?_ | refine W_exit ?_ | refine W_skip ?_ | refine Th_ret ?_ | refine Th_exit ?_ | refine Bl_normal ?_ | refine Bl_ret ?_ | refine Bl_exit rfl ?_ | refine Bl_pass rfl ?_ | refine W_condB rfl (fun tt => ?_) (fun tt => ?_) | (show fnPost _ _ _ _ _ _ _; refine fret (rv1 rfl rfl) ?_) | (show WL _ _ _ _ _ _ _; first | refine wl_val rfl rfl (q_pv rfl) ?_ | refine wl_skip rfl rfl ?_ | refine wl_val rfl rfl (q_leq1 rfl rfl (by omega)) ?_ | refine wl_val rfl rfl (q_leq0 rfl rfl (by omega)) ?_ | refine wl_leq rfl rfl rfl rfl (fun tt => ?_) (fun tt => ?_) | refine wl_val rfl rfl (q_geq1 rfl rfl (by omega)) ?_ | refine wl_val rfl rfl (q_geq0 rfl rfl (by omega)) ?_ | refine wl_geq rfl rfl rfl rfl (fun tt => ?_) (fun tt => ?_)))
  all_goals exact ⟨ret_bool (by simp [inR] <;> omega), rfl⟩

theorem spec_inRange (a b c : Int) (w : World) :
    Calls Try.prog 82 #[.int .i64 a, .int .i64 b, .int .i64 c] w fun e w' => e = .returned (.bool (inR a b c)) ∧ w = w' := by
  refine calls_W Try.func82 rfl Try.ntmps82 rfl ?_
  repeat' (first | refine wl_nil ?_ | refine Th_normal ?_ | refine W_seq ?_ | refine W_region ?_ | refine W_condT rfl ?_ | refine W_condF rfl ?_ | refine W_block ?_ | refine W_ret ?_ | refine W_exit ?_ | refine W_skip ?_ | refine Th_ret ?_ | refine Th_exit ?_ | refine Bl_normal ?_ | refine Bl_ret ?_ | refine Bl_exit rfl ?_ | refine Bl_pass rfl ?_ | refine W_condB rfl (fun tt => ?_) (fun tt => ?_) | (show fnPost _ _ _ _ _ _ _; refine fret (rv1 rfl rfl) ?_) | (show WL _ _ _ _ _ _ _; first | refine wl_val rfl rfl (q_pv rfl) ?_ | refine wl_skip rfl rfl ?_ | refine wl_val rfl rfl (q_leq1 rfl rfl (by omega)) ?_ | refine wl_val rfl rfl (q_leq0 rfl rfl (by omega)) ?_ | refine wl_leq rfl rfl rfl rfl (fun tt => ?_) (fun tt => ?_) | refine wl_val rfl rfl (q_geq1 rfl rfl (by omega)) ?_ | refine wl_val rfl rfl (q_geq0 rfl rfl (by omega)) ?_ | refine wl_geq rfl rfl rfl rfl (fun tt => ?_) (fun tt => ?_)))
  all_goals exact ⟨ret_bool (by simp [inR] <;> omega), rfl⟩

theorem spec_inRangeF (a b c : Int) (w : World) (h : inR a b c = false) :
    Calls Try.prog 82 #[.int .i64 a, .int .i64 b, .int .i64 c] w fun e w' => e = .returned (.bool false) ∧ w = w' := by
  have := spec_inRange a b c w
  rwa [h] at this

theorem impl_withinF (a b c : Int) (w : World) (h : inR a b c = false) :
    Calls Try.prog 57 #[.int .i64 a, .int .i64 b, .int .i64 c] w fun e w' => e = .returned (.bool false) ∧ w = w' := by
  have := impl_within a b c w
  rwa [h] at this
theorem impl_withinT (a b c : Int) (w : World) (h : inR a b c = true) :
    Calls Try.prog 57 #[.int .i64 a, .int .i64 b, .int .i64 c] w fun e w' => e = .returned (.bool true) ∧ w = w' := by
  have := impl_within a b c w
  rwa [h] at this

theorem impl_ValidGlue (g : Glue) (w : World) :
    Calls Try.prog 79 #[vG g] w fun e w' => e = .returned (.bool (vGlue g)) ∧ Gr w w' := by
  refine calls_W Try.func79 rfl Try.ntmps79 rfl ?_
  repeat' (first | refine wl_nil ?_ | refine Th_normal ?_ | refine W_seq ?_ | refine W_region ?_ | refine W_condT rfl ?_ | refine W_condF rfl ?_ | refine W_block ?_ | refine W_ret ?_ | refine W_exit ?_ | refine W_skip ?_ | refine Th_ret ?_ | refine Th_exit ?_ | refine Bl_normal ?_ | refine Bl_ret ?_ | refine Bl_exit rfl ?_ | refine Bl_pass rfl ?_ | refine W_condB rfl (fun tt => ?_) (fun tt => ?_) | (show fnPost _ _ _ _ _ _ _; refine fret (rv1 rfl rfl) ?_) | (show WL _ _ _ _ _ _ _; first | (refine wl_do (op := .call { callee := .value (.func 57), args := _, argTypes := _ }) rfl rfl ?_; refine st_callPB Try.func57 rfl rfl rfl (impl_within _ _ _ _) (fun tt => ?_) (fun tt => ?_)) | refine wl_val rfl rfl (q_pv rfl) ?_ | refine wl_skip rfl rfl ?_ | refine wl_val rfl rfl (q_fieldAddr rfl) ?_ | refine wl_val rfl rfl (q_loadA rfl Cs.A (by rfl)) ?_ | refine wl_val rfl rfl (q_load1 rfl Cs.A (by rfl)) ?_ | refine wl_val rfl rfl (q_loadS rfl Cs.A (by rfl) (by rfl)) ?_ | (refine wl_do rfl rfl ?_; first | refine st_box rfl rfl (fun b w1 e1 g1 z1 f1 => ?_))))
  all_goals exact ⟨ret_bool (by simp_all [vGlue]), Gr.A⟩

theorem spec_validGlue (g : Glue) (w : World) :
    Calls Try.prog 91 #[vG g] w fun e w' => e = .returned (.bool (vGlue g)) ∧ Gr w w' := by
  refine calls_W Try.func91 rfl Try.ntmps91 rfl ?_
  repeat' (first | refine wl_nil ?_ | refine Th_normal ?_ | refine W_seq ?_ | refine W_region ?_ | refine W_condT rfl ?_ | refine W_condF rfl ?_ | refine W_block ?_ | refine W_ret ?_ | refine W_exit ?_ | refine W_skip ?_ | refine Th_ret ?_ | refine Th_exit ?_ | refine Bl_normal ?_ | refine Bl_ret ?_ | refine Bl_exit rfl ?_ | refine Bl_pass rfl ?_ | refine W_condB rfl (fun tt => ?_) (fun tt => ?_) | (show fnPost _ _ _ _ _ _ _; refine fret (rv1 rfl rfl) ?_) | (show WL _ _ _ _ _ _ _; first | (refine wl_do (op := .call { callee := .value (.func 82), args := _, argTypes := _ }) rfl rfl ?_; refine st_callPB Try.func82 rfl rfl rfl (spec_inRange _ _ _ _) (fun tt => ?_) (fun tt => ?_)) | refine wl_val rfl rfl (q_pv rfl) ?_ | refine wl_skip rfl rfl ?_ | refine wl_val rfl rfl (q_fieldAddr rfl) ?_ | refine wl_val rfl rfl (q_loadA rfl Cs.A (by rfl)) ?_ | refine wl_val rfl rfl (q_load1 rfl Cs.A (by rfl)) ?_ | refine wl_val rfl rfl (q_loadS rfl Cs.A (by rfl) (by rfl)) ?_ | (refine wl_do rfl rfl ?_; first | refine st_box rfl rfl (fun b w1 e1 g1 z1 f1 => ?_))))
  all_goals exact ⟨ret_bool (by simp_all [vGlue]), Gr.A⟩

theorem impl_g2 (g h : Glue) (w : World) :
    Calls Try.prog 100 #[vG g, vG h] w fun e w' => e = .returned (vG (addG g h)) ∧ Gr w w' := by
  refine calls_W Try.func100 rfl Try.ntmps100 rfl ?_
  repeat' (first | refine wl_nil ?_ | refine Th_normal ?_ | refine W_seq ?_ | refine W_region ?_ | refine W_condT rfl ?_ | refine W_condF rfl ?_ | refine W_block ?_ | refine W_ret ?_ | refine W_exit ?_ | refine W_skip ?_ | refine Th_ret ?_ | refine Th_exit ?_ | refine Bl_normal ?_ | refine Bl_ret ?_ | refine Bl_exit rfl ?_ | refine Bl_pass rfl ?_ | refine W_condB rfl (fun tt => ?_) (fun tt => ?_) | (show fnPost _ _ _ _ _ _ _; refine fret (rvC rfl rfl Cs.A (by rfl)) ?_) | (show WL _ _ _ _ _ _ _; first | refine wl_val rfl rfl (q_add rfl rfl (by omega)) ?_ | refine wl_val rfl rfl (q_fieldAddr rfl) ?_ | refine wl_val rfl rfl (q_loadA rfl Cs.A (by rfl)) ?_ | refine wl_val rfl rfl (q_load1 rfl Cs.A (by rfl)) ?_ | refine wl_val rfl rfl (q_loadS rfl Cs.A (by rfl) (by rfl)) ?_ | refine wl_val rfl rfl (q_build rfl rfl) ?_ | (refine wl_do rfl rfl ?_; first | refine st_box rfl rfl (fun b w1 e1 g1 z1 f1 => ?_) | refine st_alloc (fun b w1 e1 g1 z1 f1 => ?_) | refine st_store rfl rfl rfl rfl rfl rfl Bx.A (by first | rfl | (rw [Nat.ble_eq]; simp; omega)) (fun w1 g1 z1 f1 => ?_)) | refine wl_val rfl rfl (q_addw rfl rfl) ?_))
  exact ⟨rfl, Gr.A⟩

end Go.Proofs.Ytdenlafdbfbkoaa
