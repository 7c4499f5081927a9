/- The laws on sums of glue: their walks. -/
import Derived.Test.YtkmfjdnkkkejpaaGlue
import Derived.Test.YtkmfjdnkkkejpaaDrawG
import Derived.Test.YtkmfjdnkkkejpaaPlainG
namespace Go.Proofs.Ytkmfjdnkkkejpaa
open Go.RowKit
set_option linter.unusedVariables false
set_option linter.unusedSimpArgs false
set_option maxHeartbeats 1000000
attribute [local irreducible] W WL QV ST RV Th Bl fnPost Cs Bx pp ea Calls
set_option maxHeartbeats 4000000

theorem impl_AddGlueE {g h s : Glue} {o : Bool} (e : addGlueR g h = (s, o)) (w : World) :
    Calls Try.prog 18 #[vG g, vG h] w fun e w' => e = .returned (.tuple #[vG s, .bool o]) ∧ Gr w w' := by
  have := impl_AddGlue g h w
  rwa [e] at this
theorem spec_AddGlueE {g h s : Glue} {o : Bool} (e : addGlueR g h = (s, o)) (w : World) :
    Calls Try.prog 19 #[vG g, vG h] w fun e w' => e = .returned (.tuple #[vG s, .bool o]) ∧ Gr w w' := by
  have := spec_AddGlue g h w
  rwa [e] at this

theorem w_FnAddGlue (A : Option Addr) (c : Nat) (zs : List Int) (w : World) (h : Code w A c zs) :
    Calls Try.prog 6 #[.slice A zs.length c] w fun e w' => e = .returned (.bool true) ∧ Gr w w' := by
  refine calls_W Try.func6 rfl Try.ntmps6 rfl ?_
  repeat' (first | refine wl_nil ?_ | refine Th_normal ?_ | refine W_seq ?_ | refine W_region ?_ | refine W_condT rfl ?_ | refine W_condF rfl ?_ | refine W_block ?_ | refine W_ret ?_ | refine W_exit ?_ | refine W_skip ?_ | refine Th_ret ?_ | refine Th_exit ?_ | refine Bl_normal ?_ | refine Bl_ret ?_ | refine Bl_exit rfl ?_ | refine Bl_pass rfl ?_ | refine W_condB rfl (fun tt => ?_) (fun tt => ?_) | (show fnPost _ _ _ _ _ _ _; refine fret (rv1 rfl rfl) ?_) | (show WL _ _ _ _ _ _ _; first | (refine wl_do (op := .call { callee := .value (.func 17), args := _, argTypes := _ }) rfl rfl ?_; refine st_call Try.func17 rfl rfl rfl (spec_DrawAddGlue _ _ _ _ (h.gr (by repeat (first | exact Gr.refl _ | assumption | (apply Gr.trans; rotate_left; assumption) | (apply Gr.st; rotate_left; assumption; focus omega))))) ?_; rintro e w1 ⟨g, k, rfl, g1⟩; refine ⟨_, rfl, ?_⟩; have z1 := g1.size; rcases add_cases g k with ⟨s,hA1,hA2,hA3,hf1,hf2,⟨hf3,hf4⟩,hf5,hf6⟩|⟨hA1,hA2⟩) | (refine wl_do (op := .call { callee := .value (.func 18), args := _, argTypes := _ }) rfl rfl ?_; refine st_callV Try.func18 rfl rfl rfl (impl_AddGlueE hA1 _) (fun w1 g1 z1 => ?_)) | (refine wl_do (op := .call { callee := .value (.func 18), args := _, argTypes := _ }) rfl rfl ?_; refine st_callV Try.func18 rfl rfl rfl (impl_AddGlueE hA2 _) (fun w1 g1 z1 => ?_)) | (refine wl_do (op := .call { callee := .value (.func 18), args := _, argTypes := _ }) rfl rfl ?_; refine st_callV Try.func18 rfl rfl rfl (impl_AddGlueE hA3 _) (fun w1 g1 z1 => ?_)) | (refine wl_do (op := .call { callee := .value (.func 19), args := _, argTypes := _ }) rfl rfl ?_; refine st_callV Try.func19 rfl rfl rfl (spec_AddGlueE hA1 _) (fun w1 g1 z1 => ?_)) | (refine wl_do (op := .call { callee := .value (.func 20), args := _, argTypes := _ }) rfl rfl ?_; refine st_callVB Try.func20 rfl rfl rfl (impl_ValidGlue _ _) (fun w1 g1 z1 tt => ?_) (fun w1 g1 z1 tt => ?_)) | (refine wl_val rfl rfl (q_eqG1 rfl rfl ⟨rfl, rfl, rfl⟩) ?_) | (refine wl_val rfl rfl (q_neG1 rfl rfl ⟨rfl, rfl, rfl⟩) ?_) | refine wl_val rfl rfl (q_pv rfl) ?_ | refine wl_skip rfl rfl ?_ | refine wl_val rfl rfl (q_add rfl rfl (by omega)) ?_ | refine wl_val rfl rfl (q_len rfl) ?_ | refine wl_val rfl rfl (q_lenS rfl) ?_ | refine wl_val rfl rfl (q_fieldAddr rfl) ?_ | refine wl_val rfl rfl (q_loadA rfl (by repeat (first | assumption | exact Bx.cs (by assumption) | (apply Cs.gr; assumption) | (apply Cs.mv; assumption; focus (first | assumption | ((try dsimp only); omega))))) (by rfl)) ?_ | refine wl_val rfl rfl (q_load1 rfl (by repeat (first | assumption | exact Bx.cs (by assumption) | (apply Cs.gr; assumption) | (apply Cs.mv; assumption; focus (first | assumption | ((try dsimp only); omega))))) (by rfl)) ?_ | refine wl_val rfl rfl (q_loadS rfl (by repeat (first | assumption | exact Bx.cs (by assumption) | (apply Cs.gr; assumption) | (apply Cs.mv; assumption; focus (first | assumption | ((try dsimp only); omega))))) (by rfl) (by rfl)) ?_ | refine wl_val rfl rfl (q_build rfl rfl) ?_ | (refine wl_do rfl rfl ?_; first | refine st_alloc (fun b w1 e1 g1 z1 f1 => ?_) | refine st_store rfl rfl rfl rfl rfl rfl (by repeat (first | assumption | (apply Bx.gr; assumption) | (apply Bx.mv; assumption; focus omega))) (by first | rfl | (rw [Nat.ble_eq]; simp; omega)) (fun w1 g1 z1 f1 => ?_)) | refine wl_val rfl rfl (q_gtr1 rfl rfl (by omega)) ?_ | refine wl_val rfl rfl (q_gtr0 rfl rfl (by omega)) ?_ | refine wl_gtr rfl rfl rfl rfl (fun tt => ?_) (fun tt => ?_) | refine wl_val rfl rfl (q_eql1 rfl rfl (by omega)) ?_ | refine wl_val rfl rfl (q_eql0 rfl rfl (by omega)) ?_ | refine wl_eql rfl rfl rfl rfl (fun tt => ?_) (fun tt => ?_) | refine wl_val rfl rfl (q_neq1 rfl rfl (by omega)) ?_ | refine wl_val rfl rfl (q_neq0 rfl rfl (by omega)) ?_ | refine wl_neq rfl rfl rfl rfl (fun tt => ?_) (fun tt => ?_) | refine wl_val rfl rfl (q_eqlB rfl rfl) ?_ | refine wl_val rfl rfl (q_neqB rfl rfl) ?_ | refine wl_val rfl rfl (q_addw rfl rfl) ?_))
  all_goals first | exact ⟨rfl, (by repeat (first | exact Gr.refl _ | assumption | (apply Gr.trans; rotate_left; assumption) | (apply Gr.st; rotate_left; assumption; focus omega)))⟩ | exact ⟨ret_bool (by simp; omega), (by repeat (first | exact Gr.refl _ | assumption | (apply Gr.trans; rotate_left; assumption) | (apply Gr.st; rotate_left; assumption; focus omega)))⟩ | (exfalso; simp_all; done) | (exfalso; omega)

end Go.Proofs.Ytkmfjdnkkkejpaa
