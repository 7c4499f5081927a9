/- The exact law on patterns: its walk. -/
import Derived.Test.YtncgflkkmccadaaPat
import Derived.Test.YtncgflkkmccadaaMarkS
import Derived.Test.YtncgflkkmccadaaMarkT
namespace Go.Proofs.Ytncgflkkmccadaa
open Go.RowKit
set_option linter.unusedVariables false
set_option linter.unusedSimpArgs false
set_option maxHeartbeats 1000000
attribute [local irreducible] W WL QV ST RV Th Bl fnPost Cs Bx pp ea Calls
set_option maxRecDepth 100000

theorem laws_eqIntSP (A B : Option Addr) (c d : Nat) (xs : List Int) (w : World) (hS : Sl w A 1 encI xs) (hT : Sl w B 1 encI xs) (hl : xs.length ≤ 1048576) :
    Calls Try.prog 15 #[.slice A xs.length c, .slice B xs.length d] w fun e w' => e = .returned (.bool true) ∧ Gr w w' := by
  have := laws_eqIntS A B c d xs xs w hS hT (by omega) (by omega)
  simpa using this

theorem w_FnExactParsePattern (l : List UInt8) (w : World) (hl : l.length ≤ 9223372036854775807) :
    Calls Try.prog 3 #[str l] w fun e w' => e = .returned (.bool true) ∧ Gr w w' := by
  by_cases hk : l.length ≤ 1048576
  · have hbl := (pVals_len l).1
    cases hp : pOk l
    all_goals
      refine calls_W Try.func3 rfl Try.ntmps3 rfl ?_
      repeat' (first | refine wl_nil ?_ | refine Th_normal ?_ | refine W_seq ?_ | refine W_region ?_ | refine W_condT rfl ?_ | refine W_condF rfl ?_ | refine W_block ?_ | refine W_ret ?_ | refine W_exit ?_ | refine W_skip ?_ | refine Th_ret ?_ | refine Th_exit ?_ | refine Bl_normal ?_ | refine Bl_ret ?_ | refine Bl_exit rfl ?_ | refine Bl_pass rfl ?_ | refine W_condB rfl (fun tt => ?_) (fun tt => ?_) | (show fnPost _ _ _ _ _ _ _; refine fret (rv1 rfl rfl) ?_) | (show WL _ _ _ _ _ _ _; first | (refine wl_do (op := .call { callee := .value (.func 13), args := _, argTypes := _ }) rfl rfl ?_; refine st_call Try.func13 rfl rfl rfl (spec_ParsePattern l _ hk) ?_; rintro e w1 ⟨B, d, rfl, g1, hO⟩; rw [hp]; refine ⟨_, rfl, ?_⟩; have z1 := g1.size; have hs := hO.sb (fun _ => rfl); clear hO) | (refine wl_do (op := .call { callee := .value (.func 14), args := _, argTypes := _ }) rfl rfl ?_; refine st_call Try.func14 rfl rfl rfl (impl_ParsePattern l _ hk) ?_; rintro e w1 ⟨B, d, rfl, g1, hO⟩; rw [hp]; refine ⟨_, rfl, ?_⟩; have z1 := g1.size; have hs := hO.sb (fun _ => rfl); obtain ⟨bq, q1, q2, hW⟩ := hO.wr (by omega); clear hO) | (refine wl_do (op := .call { callee := .value (.func 15), args := _, argTypes := _ }) rfl rfl ?_; refine st_callV Try.func15 rfl rfl rfl (laws_eqIntSP _ _ _ _ (pVals l) _ (SB.sl (by (repeat (first | assumption | (apply SB.gr; assumption) | (apply SB.mv; assumption; rotate_left))); all_goals omega)) (SB.sl (by (repeat (first | assumption | (apply SB.gr; assumption) | (apply SB.mv; assumption; rotate_left))); all_goals omega)) (by omega)) (fun w1 g1 z1 => ?_)) | (refine wl_do (op := .call { callee := .value (.func 16), args := _, argTypes := _ }) rfl rfl ?_; refine st_call Try.func16 rfl rfl rfl (laws_markIntS _ _ _ _ 1 _ _ (by (repeat (first | assumption | (apply Wr.gr; assumption) | (apply Wr.mv; assumption; rotate_left))); all_goals omega) (by omega) (by omega) (by omega)) ?_; rintro e w1 ⟨rfl, g1, z1, hM⟩; refine ⟨_, rfl, ?_⟩) | (refine wl_do (op := .call { callee := .value (.func 17), args := _, argTypes := _ }) rfl rfl ?_; refine st_callV Try.func17 rfl rfl rfl (laws_heldIntS _ _ _ 1 _ (Wr.slc (by (repeat (first | assumption | (apply Wr.gr; assumption) | (apply Wr.mv; assumption; rotate_left))); all_goals omega)) (by omega) (by omega) (by omega)) (fun w1 g1 z1 => ?_)) | (refine wl_val rfl rfl (q_lenT rfl) ?_) | (refine wl_val rfl rfl (q_neqT1 rfl rfl rfl) ?_) | refine wl_val rfl rfl (q_pv rfl) ?_ | refine wl_skip rfl rfl ?_ | refine wl_val rfl rfl (q_len rfl) ?_ | refine wl_val rfl rfl (q_lenS rfl) ?_ | refine wl_val rfl rfl (q_lss1 rfl rfl (by omega)) ?_ | refine wl_val rfl rfl (q_lss0 rfl rfl (by omega)) ?_ | refine wl_lss rfl rfl rfl rfl (fun tt => ?_) (fun tt => ?_) | refine wl_val rfl rfl (q_gtr1 rfl rfl (by omega)) ?_ | refine wl_val rfl rfl (q_gtr0 rfl rfl (by omega)) ?_ | refine wl_gtr rfl rfl rfl rfl (fun tt => ?_) (fun tt => ?_) | refine wl_val rfl rfl (q_neq1 rfl rfl (by omega)) ?_ | refine wl_val rfl rfl (q_neq0 rfl rfl (by omega)) ?_ | refine wl_neq rfl rfl rfl rfl (fun tt => ?_) (fun tt => ?_) | refine wl_val rfl rfl (q_neqB rfl rfl) ?_))
    all_goals exact ⟨rfl, (by repeat (first | exact Gr.refl _ | assumption | (apply Gr.trans; rotate_left; assumption) | (apply Gr.st; rotate_left; assumption; focus omega)))⟩
  · refine calls_W Try.func3 rfl Try.ntmps3 rfl ?_
    repeat' (first | refine wl_nil ?_ | refine Th_normal ?_ | refine W_seq ?_ | refine W_region ?_ | refine W_condT rfl ?_ | refine W_condF rfl ?_ | refine W_block ?_ | refine W_ret ?_ | refine W_exit ?_ | refine W_skip ?_ | refine Th_ret ?_ | refine Th_exit ?_ | refine Bl_normal ?_ | refine Bl_ret ?_ | refine Bl_exit rfl ?_ | refine Bl_pass rfl ?_ | refine W_condB rfl (fun tt => ?_) (fun tt => ?_) | (show fnPost _ _ _ _ _ _ _; refine fret (rv1 rfl rfl) ?_) | (show WL _ _ _ _ _ _ _; first | (refine wl_val rfl rfl (q_lenT rfl) ?_) | refine wl_val rfl rfl (q_pv rfl) ?_ | refine wl_skip rfl rfl ?_ | refine wl_val rfl rfl (q_len rfl) ?_ | refine wl_val rfl rfl (q_lenS rfl) ?_ | refine wl_val rfl rfl (q_lss1 rfl rfl (by omega)) ?_ | refine wl_val rfl rfl (q_lss0 rfl rfl (by omega)) ?_ | refine wl_lss rfl rfl rfl rfl (fun tt => ?_) (fun tt => ?_) | refine wl_val rfl rfl (q_gtr1 rfl rfl (by omega)) ?_ | refine wl_val rfl rfl (q_gtr0 rfl rfl (by omega)) ?_ | refine wl_gtr rfl rfl rfl rfl (fun tt => ?_) (fun tt => ?_) | refine wl_val rfl rfl (q_neq1 rfl rfl (by omega)) ?_ | refine wl_val rfl rfl (q_neq0 rfl rfl (by omega)) ?_ | refine wl_neq rfl rfl rfl rfl (fun tt => ?_) (fun tt => ?_) | refine wl_val rfl rfl (q_neqB rfl rfl) ?_))
    all_goals exact ⟨rfl, (by repeat (first | exact Gr.refl _ | assumption | (apply Gr.trans; rotate_left; assumption) | (apply Gr.st; rotate_left; assumption; focus omega)))⟩

end Go.Proofs.Ytncgflkkmccadaa
