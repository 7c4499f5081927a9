/- The laws on costs of lines and first fit: their walks. -/
import Derived.Test.YtpekagagjjhjeaaFst
import Derived.Test.YtpekagagjjhjeaaDrawJ
import Derived.Test.YtpekagagjjhjeaaLawH
namespace Go.Proofs.Ytpekagagjjhjeaa
open Go.RowKit
set_option linter.unusedVariables false
set_option linter.unusedSimpArgs false

theorem lineCost_facts {xs : List Item} {f t d tol n : Int} (e : lineCostR xs f t d tol = (n, true)) : ∃ a b, fitLineR xs f t d = (a, b) ∧ a ≠ 4 ∧ b ≤ tol ∧ lineCostR xs f t d 10000 = (n, true) := by
  by_cases hc : (vItems xs && lineOk xs f t && inR d 1 10000) = true
  · have hc2 := hc
    simp only [Bool.and_eq_true] at hc2
    obtain ⟨⟨hv, hk⟩, hd⟩ := hc2
    unfold lineCostR at e
    simp only [hc, Bool.true_and] at e
    split at e
    · have hb := fitLn_bd (f := f) (t := t) hv hd
      unfold lnCost at e
      split at e
      · simp at e
      · rename_i hn
        refine ⟨(fitLn xs f t d).1, (fitLn xs f t d).2, by simp only [fitLineR, hc, if_true], fun h => hn (.inl h), by omega, ?_⟩
        have ht : inR 10000 0 10000 = true := by decide
        simp only [lineCostR, hc, ht, Bool.and_self, if_true]
        unfold lnCost
        rw [if_neg (by rintro (h | h); exact hn (.inl h); omega)]
        exact e
    · simp at e
  · simp only [Bool.not_eq_true] at hc
    simp [lineCostR, hc] at e

set_option maxHeartbeats 1000000
attribute [local irreducible] W WL QV ST RV Th Bl fnPost Cs Bx pp ea Calls
set_option maxRecDepth 100000

theorem w_FnLineCost (A : Option Addr) (c : Nat) (zs : List Int) (w : World) (h : Code w A c zs) :
    Calls Try.prog 6 #[.slice A zs.length c] w fun e w' => e = .returned (.bool true) ∧ Gr w w' := by
  refine calls_W Try.func6 rfl Try.ntmps6 rfl ?_
  repeat' (first | refine wl_nil ?_ | refine Th_normal ?_ | refine W_seq ?_ | refine W_region ?_ | refine W_condT rfl ?_ | refine W_condF rfl ?_ | refine W_block ?_ | refine W_ret ?_ | refine W_exit ?_ | refine W_skip ?_ | refine Th_ret ?_ | refine Th_exit ?_ | refine Bl_normal ?_ | refine Bl_ret ?_ | refine Bl_exit rfl ?_ | refine Bl_pass rfl ?_ | refine W_condB rfl (fun tt => ?_) (fun tt => ?_) | (show fnPost _ _ _ _ _ _ _; refine fret (rv1 rfl rfl) ?_) | (show WL _ _ _ _ _ _ _; first | (refine wl_do (op := .call { callee := .value (.func 26), args := _, argTypes := _ }) rfl rfl ?_; refine st_call Try.func26 rfl rfl rfl (spec_DrawLineCost _ _ _ _ (h.gr (by repeat (first | exact Gr.refl _ | assumption | (apply Gr.trans; rotate_left; assumption) | (apply Gr.st; rotate_left; assumption; focus omega))))) ?_; rintro e w1 ⟨B, d, xs, f, t, k, tol, rfl, g1, hL, q1, q2⟩; refine ⟨_, rfl, ?_⟩; have z1 := g1.size; rcases (⟨_, _, rfl⟩ : ∃ n o, lineCostR xs f t k tol = (n, o)) with ⟨n,o,e4⟩; cases o; all_goals try (obtain ⟨a, b, e5, e6, e7, e8⟩ := lineCost_facts e4; have key3 := fun w h => impl_FitLine B d xs f t k w h q2 (by omega); rw [e5] at key3; dsimp only at key3)) | (refine wl_do (op := .call { callee := .value (.func 14), args := _, argTypes := _ }) rfl rfl ?_; refine st_callV Try.func14 rfl rfl rfl (impl_LineCost _ _ _ _ _ _ tol _ _ _ (hL.gr (by repeat (first | exact Gr.refl _ | assumption | (apply Gr.trans; rotate_left; assumption) | (apply Gr.st; rotate_left; assumption; focus omega)))) q2 (by omega) e4) (fun w1 g1 z1 => ?_)) | (refine wl_do (op := .call { callee := .value (.func 12), args := _, argTypes := _ }) rfl rfl ?_; refine st_callV Try.func12 rfl rfl rfl (spec_LineCost _ _ _ _ _ _ tol _ _ _ (hL.gr (by repeat (first | exact Gr.refl _ | assumption | (apply Gr.trans; rotate_left; assumption) | (apply Gr.st; rotate_left; assumption; focus omega)))) q2 (by omega) e4) (fun w1 g1 z1 => ?_)) | (refine wl_do (op := .call { callee := .value (.func 14), args := _, argTypes := _ }) rfl rfl ?_; refine st_callV Try.func14 rfl rfl rfl (impl_LineCost _ _ _ _ _ _ 10000 _ _ _ (hL.gr (by repeat (first | exact Gr.refl _ | assumption | (apply Gr.trans; rotate_left; assumption) | (apply Gr.st; rotate_left; assumption; focus omega)))) q2 (by omega) e8) (fun w1 g1 z1 => ?_)) | (refine wl_do (op := .call { callee := .value (.func 27), args := _, argTypes := _ }) rfl rfl ?_; refine st_callV Try.func27 rfl rfl rfl (key3 _ (hL.gr (by repeat (first | exact Gr.refl _ | assumption | (apply Gr.trans; rotate_left; assumption) | (apply Gr.st; rotate_left; assumption; focus omega))))) (fun w1 g1 z1 => ?_)) | (refine wl_val rfl rfl (q_neqB rfl rfl) ?_) | (refine wl_val rfl rfl (q_eqlB rfl rfl) ?_) | refine wl_val rfl rfl (q_pv rfl) ?_ | refine wl_skip rfl rfl ?_ | refine wl_val rfl rfl (q_len rfl) ?_ | refine wl_val rfl rfl (q_lenS rfl) ?_ | refine wl_val rfl rfl (q_leq1 rfl rfl (by omega)) ?_ | refine wl_val rfl rfl (q_leq0 rfl rfl (by omega)) ?_ | refine wl_leq rfl rfl rfl rfl (fun tt => ?_) (fun tt => ?_) | refine wl_val rfl rfl (q_gtr1 rfl rfl (by omega)) ?_ | refine wl_val rfl rfl (q_gtr0 rfl rfl (by omega)) ?_ | refine wl_gtr rfl rfl rfl rfl (fun tt => ?_) (fun tt => ?_) | refine wl_val rfl rfl (q_eql1 rfl rfl (by omega)) ?_ | refine wl_val rfl rfl (q_eql0 rfl rfl (by omega)) ?_ | refine wl_eql rfl rfl rfl rfl (fun tt => ?_) (fun tt => ?_) | refine wl_val rfl rfl (q_neq1 rfl rfl (by omega)) ?_ | refine wl_val rfl rfl (q_neq0 rfl rfl (by omega)) ?_ | refine wl_neq rfl rfl rfl rfl (fun tt => ?_) (fun tt => ?_) | refine wl_val rfl rfl (q_eqlB rfl rfl) ?_ | refine wl_val rfl rfl (q_neqB rfl rfl) ?_))
  all_goals exact ⟨rfl, (by repeat (first | exact Gr.refl _ | assumption | (apply Gr.trans; rotate_left; assumption) | (apply Gr.st; rotate_left; assumption; focus omega)))⟩

theorem vBreaks_last {xs : List Item} {bs : List Int} (h : vBreaks xs bs = true) (h0 : 0 < bs.length) : bs.getLast? = some ((xs.length : Int) - 1) := by
  simp only [vBreaks, Bool.and_eq_true, decide_eq_true_eq] at h
  obtain ⟨z, hz⟩ : ∃ z, bs[bs.length - 1]? = some z := ⟨_, List.getElem?_eq_getElem (by omega)⟩
  have := frm_last h0 hz
  rw [h.2] at this
  rw [List.getLast?_eq_getElem?, hz, this]

theorem w_FnFirstFit (A : Option Addr) (c : Nat) (zs : List Int) (w : World) (h : Code w A c zs) :
    Calls Try.prog 5 #[.slice A zs.length c] w fun e w' => e = .returned (.bool true) ∧ Gr w w' := by
  refine calls_W Try.func5 rfl Try.ntmps5 rfl ?_
  repeat' (first | refine wl_nil ?_ | refine Th_normal ?_ | refine W_seq ?_ | refine W_region ?_ | refine W_condT rfl ?_ | refine W_condF rfl ?_ | refine W_block ?_ | refine W_ret ?_ | refine W_exit ?_ | refine W_skip ?_ | refine Th_ret ?_ | refine Th_exit ?_ | refine Bl_normal ?_ | refine Bl_ret ?_ | refine Bl_exit rfl ?_ | refine Bl_pass rfl ?_ | refine W_condB rfl (fun tt => ?_) (fun tt => ?_) | (show fnPost _ _ _ _ _ _ _; refine fret (rv1 rfl rfl) ?_) | (show WL _ _ _ _ _ _ _; first | (refine wl_do (op := .call { callee := .value (.func 22), args := _, argTypes := _ }) rfl rfl ?_; refine st_call Try.func22 rfl rfl rfl (spec_DrawFirstFit _ _ _ _ (h.gr (by repeat (first | exact Gr.refl _ | assumption | (apply Gr.trans; rotate_left; assumption) | (apply Gr.st; rotate_left; assumption; focus omega))))) ?_; rintro e w1 ⟨B, d, xs, k, rfl, g1, hL, q1, q2⟩; refine ⟨_, rfl, ?_⟩; have z1 := g1.size; have hbl := ffList_len xs k; by_cases h0 : (ffList xs k).length = 0; all_goals try (have hvb : vBreaks xs (ffList xs k) = true := (by by_cases hq : (vItems xs && inR k 1 10000) = true; (simp only [Bool.and_eq_true] at hq; exact ffList_valid hq.1 hq.2); (exact absurd (by simp [ffList, hq]) h0))); all_goals try (have hla := vBreaks_last hvb (Nat.pos_of_ne_zero h0))) | (refine wl_do (op := .call { callee := .value (.func 17), args := _, argTypes := _ }) rfl rfl ?_; refine st_call Try.func17 rfl rfl rfl (impl_FirstFit _ _ _ _ _ (hL.gr (by repeat (first | exact Gr.refl _ | assumption | (apply Gr.trans; rotate_left; assumption) | (apply Gr.st; rotate_left; assumption; focus omega)))) q2 (by omega)) ?_; rintro e w1 ⟨B1, d1, rfl, g1, hO1⟩; refine ⟨_, rfl, ?_⟩; have z1 := g1.size; have hS1 : Sl _ B1 1 encI (ffList xs k) := hO1.sl (fun _ => rfl); clear hO1) | (refine wl_do (op := .call { callee := .value (.func 16), args := _, argTypes := _ }) rfl rfl ?_; refine st_call Try.func16 rfl rfl rfl (spec_FirstFit _ _ _ _ _ (hL.gr (by repeat (first | exact Gr.refl _ | assumption | (apply Gr.trans; rotate_left; assumption) | (apply Gr.st; rotate_left; assumption; focus omega)))) q2 (by omega)) ?_; rintro e w1 ⟨B2, d2, rfl, g1, hO2⟩; refine ⟨_, rfl, ?_⟩; have z1 := g1.size; have hS2 : Sl _ B2 1 encI (ffList xs k) := hO2.sl (fun _ => rfl); clear hO2) | (refine wl_do (op := .call { callee := .value (.func 23), args := _, argTypes := _ }) rfl rfl ?_; refine st_callV Try.func23 rfl rfl rfl (laws_equalIntsT _ _ _ _ (ffList xs k) _ (hS1.gr (by repeat (first | exact Gr.refl _ | assumption | (apply Gr.trans; rotate_left; assumption) | (apply Gr.st; rotate_left; assumption; focus omega)))) (hS2.gr (by repeat (first | exact Gr.refl _ | assumption | (apply Gr.trans; rotate_left; assumption) | (apply Gr.st; rotate_left; assumption; focus omega)))) (by omega)) (fun w1 g1 z1 => ?_)) | (refine wl_do (op := .call { callee := .value (.func 24), args := _, argTypes := _ }) rfl rfl ?_; refine st_callV Try.func24 rfl rfl rfl (impl_ValidBreaks _ _ _ _ _ _ _ _ (hL.gr (by repeat (first | exact Gr.refl _ | assumption | (apply Gr.trans; rotate_left; assumption) | (apply Gr.st; rotate_left; assumption; focus omega)))) (hS1.gr (by repeat (first | exact Gr.refl _ | assumption | (apply Gr.trans; rotate_left; assumption) | (apply Gr.st; rotate_left; assumption; focus omega)))) q2 (by omega) (by omega) hvb) (fun w1 g1 z1 => ?_)) | (refine wl_do (op := .call { callee := .value (.func 25), args := _, argTypes := _ }) rfl rfl ?_; refine st_callP Try.func25 rfl rfl rfl (laws_last _ _ _ _ _ (hS1.gr (by repeat (first | exact Gr.refl _ | assumption | (apply Gr.trans; rotate_left; assumption) | (apply Gr.st; rotate_left; assumption; focus omega)))) hla (by omega)) ?_) | refine wl_val rfl rfl (q_pv rfl) ?_ | refine wl_skip rfl rfl ?_ | refine wl_val rfl rfl (q_sub rfl rfl (by omega)) ?_ | refine wl_val rfl rfl (q_len rfl) ?_ | refine wl_val rfl rfl (q_lenS rfl) ?_ | refine wl_val rfl rfl (q_gtr1 rfl rfl (by omega)) ?_ | refine wl_val rfl rfl (q_gtr0 rfl rfl (by omega)) ?_ | refine wl_gtr rfl rfl rfl rfl (fun tt => ?_) (fun tt => ?_) | refine wl_val rfl rfl (q_eql1 rfl rfl (by omega)) ?_ | refine wl_val rfl rfl (q_eql0 rfl rfl (by omega)) ?_ | refine wl_eql rfl rfl rfl rfl (fun tt => ?_) (fun tt => ?_) | refine wl_val rfl rfl (q_eqlB rfl rfl) ?_ | refine wl_val rfl rfl (q_subw rfl rfl) ?_))
  all_goals exact ⟨rfl, (by repeat (first | exact Gr.refl _ | assumption | (apply Gr.trans; rotate_left; assumption) | (apply Gr.st; rotate_left; assumption; focus omega)))⟩

end Go.Proofs.Ytpekagagjjhjeaa
