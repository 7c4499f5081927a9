/- The exact laws on glue, badness and demerits: their walks. -/
import Derived.Test.YtfegjohodlapeaaGlue
namespace Go.Proofs.Ytfegjohodlapeaa
open Go.RowKit
set_option linter.unusedVariables false
set_option linter.unusedSimpArgs false
set_option maxHeartbeats 1000000
attribute [local irreducible] W WL QV ST RV Th Bl fnPost Cs Bx pp ea Calls

theorem laws_toGlue (g : Glue) (w : World) :
    Calls Try.prog 65 #[vG g] w fun e w' => e = .returned (vG g) ∧ Gr w w' := by
  refine calls_W Try.func65 rfl Try.ntmps65 rfl ?_
  repeat' (first | refine wl_nil ?_ | refine Th_normal ?_ | refine W_seq ?_ | refine W_region ?_ | refine W_condT rfl ?_ | refine W_condF rfl ?_ | refine W_block ?_ | refine W_ret ?_ | refine W_exit ?_ | refine W_skip ?_ | refine Th_ret ?_ | refine Th_exit ?_ | refine Bl_normal ?_ | refine Bl_ret ?_ | refine Bl_exit rfl ?_ | refine Bl_pass rfl ?_ | refine W_condB rfl (fun tt => ?_) (fun tt => ?_) | (show fnPost _ _ _ _ _ _ _; refine fret (rvC rfl rfl (by repeat (first | assumption | exact Bx.cs (by assumption) | (apply Cs.gr; assumption) | (apply Cs.mv; assumption; focus (first | assumption | ((try dsimp only); omega))))) (by rfl)) ?_) | (show WL _ _ _ _ _ _ _; first | refine wl_val rfl rfl (q_fieldAddr rfl) ?_ | refine wl_val rfl rfl (q_loadA rfl (by repeat (first | assumption | exact Bx.cs (by assumption) | (apply Cs.gr; assumption) | (apply Cs.mv; assumption; focus (first | assumption | ((try dsimp only); omega))))) (by rfl)) ?_ | refine wl_val rfl rfl (q_load1 rfl (by repeat (first | assumption | exact Bx.cs (by assumption) | (apply Cs.gr; assumption) | (apply Cs.mv; assumption; focus (first | assumption | ((try dsimp only); omega))))) (by rfl)) ?_ | refine wl_val rfl rfl (q_loadS rfl (by repeat (first | assumption | exact Bx.cs (by assumption) | (apply Cs.gr; assumption) | (apply Cs.mv; assumption; focus (first | assumption | ((try dsimp only); omega))))) (by rfl) (by rfl)) ?_ | (refine wl_do rfl rfl ?_; first | refine st_box rfl rfl (fun b w1 e1 g1 z1 f1 => ?_) | refine st_alloc (fun b w1 e1 g1 z1 f1 => ?_) | refine st_store rfl rfl rfl rfl rfl rfl (by repeat (first | assumption | (apply Bx.gr; assumption) | (apply Bx.mv; assumption; focus omega))) (by first | rfl | (rw [Nat.ble_eq]; simp; omega)) (fun w1 g1 z1 f1 => ?_))))
  exact ⟨rfl, (by repeat (first | exact Gr.refl _ | assumption | (apply Gr.trans; rotate_left; assumption) | (apply Gr.st; rotate_left; assumption; focus omega)))⟩

theorem laws_eqGlue (g h : Glue) (w : World) :
    Calls Try.prog 66 #[vG g, vG h] w fun e w' => e = .returned (.bool (decide (g = h))) ∧ Gr w w' := by
  obtain ⟨a, b, c⟩ := g
  obtain ⟨a', b', c'⟩ := h
  refine calls_W Try.func66 rfl Try.ntmps66 rfl ?_
  repeat' (first | refine wl_nil ?_ | refine Th_normal ?_ | refine W_seq ?_ | refine W_region ?_ | refine W_condT rfl ?_ | refine W_condF rfl ?_ | refine W_block ?_ | refine W_ret ?_ | refine W_exit ?_ | refine W_skip ?_ | refine Th_ret ?_ | refine Th_exit ?_ | refine Bl_normal ?_ | refine Bl_ret ?_ | refine Bl_exit rfl ?_ | refine Bl_pass rfl ?_ | refine W_condB rfl (fun tt => ?_) (fun tt => ?_) | (show fnPost _ _ _ _ _ _ _; refine fret (rv1 rfl rfl) ?_) | (show WL _ _ _ _ _ _ _; first | refine wl_val rfl rfl (q_pv rfl) ?_ | refine wl_val rfl rfl (q_fieldAddr rfl) ?_ | refine wl_val rfl rfl (q_loadA rfl (by repeat (first | assumption | exact Bx.cs (by assumption) | (apply Cs.gr; assumption) | (apply Cs.mv; assumption; focus (first | assumption | ((try dsimp only); omega))))) (by rfl)) ?_ | refine wl_val rfl rfl (q_load1 rfl (by repeat (first | assumption | exact Bx.cs (by assumption) | (apply Cs.gr; assumption) | (apply Cs.mv; assumption; focus (first | assumption | ((try dsimp only); omega))))) (by rfl)) ?_ | refine wl_val rfl rfl (q_loadS rfl (by repeat (first | assumption | exact Bx.cs (by assumption) | (apply Cs.gr; assumption) | (apply Cs.mv; assumption; focus (first | assumption | ((try dsimp only); omega))))) (by rfl) (by rfl)) ?_ | (refine wl_do rfl rfl ?_; first | refine st_box rfl rfl (fun b w1 e1 g1 z1 f1 => ?_)) | refine wl_val rfl rfl (q_neq1 rfl rfl (by omega)) ?_ | refine wl_val rfl rfl (q_neq0 rfl rfl (by omega)) ?_ | refine wl_neq rfl rfl rfl rfl (fun tt => ?_) (fun tt => ?_) | refine wl_val rfl rfl (q_neqB rfl rfl) ?_))
  all_goals exact ⟨ret_bool (by simp_all), (by repeat (first | exact Gr.refl _ | assumption | (apply Gr.trans; rotate_left; assumption) | (apply Gr.st; rotate_left; assumption; focus omega)))⟩

end Go.Proofs.Ytfegjohodlapeaa
