/- Contracts of the functions on lines. -/
import Derived.Test.YtdenlafdbfbkoaaBrk
namespace Go.Proofs.Ytdenlafdbfbkoaa
open Go.RowKit
set_option linter.unusedVariables false
set_option linter.unusedSimpArgs false
set_option maxHeartbeats 1000000
attribute [local irreducible] W WL QV ST RV Th Bl fnPost Cs Bx pp ea Calls

theorem seg_length {xs : List Item} {f t : Int} (h : t ≤ xs.length) : (seg xs f t).length = t.toNat - (f + 1).toNat := by unfold seg; simp; omega

theorem slices_IndexFunc (A : Option Addr) (c : Nat) (xs : List Item) (m : Nat) (w : World) (hS : Sl w A 6 encT xs) (hm : xs.length = m) (hl : m ≤ 1048576) :
    Calls Try.prog 114 #[.slice A m c, .func (.func 67) #[] #[]] w fun e w' => ∃ k : Int, e = .returned (.int .i64 k) ∧ Gr w w' ∧ (xs.any forced = true → 0 ≤ k) ∧ (xs.any forced = false → k = -1) := by
  subst hm
  refine calls_W Try.func114 rfl Try.ntmps114 rfl ?_
  repeat' (first | refine wl_nil ?_ | refine Th_normal ?_ | refine W_seq ?_ | refine W_region ?_ | refine W_condT rfl ?_ | refine W_condF rfl ?_ | refine W_block ?_ | refine W_ret ?_ | refine W_exit ?_ | refine W_skip ?_ | refine Th_ret ?_ | refine Th_exit ?_ | refine Bl_normal ?_ | refine Bl_ret ?_ | refine Bl_exit rfl ?_ | refine Bl_pass rfl ?_ | refine W_condB rfl (fun tt => ?_) (fun tt => ?_) | (show fnPost _ _ _ _ _ _ _; refine fret (rv1 rfl rfl) ?_) | (show WL _ _ _ _ _ _ _; first | refine wl_val rfl rfl (q_pv rfl) ?_ | refine wl_val rfl rfl (q_add rfl rfl (by omega)) ?_ | refine wl_val rfl rfl (q_len rfl) ?_ | refine wl_val rfl rfl (q_lenS rfl) ?_ | refine wl_val rfl rfl (q_indexAddr _ rfl rfl rfl (by omega) (by first | assumption | rfl)) ?_ | refine wl_val rfl rfl (q_indexAddrI rfl rfl (by omega) (by omega) (by first | assumption | rfl)) ?_ | refine wl_val rfl rfl (q_loadA rfl Cs.A (by rfl)) ?_ | refine wl_val rfl rfl (q_load1 rfl Cs.A (by rfl)) ?_ | refine wl_val rfl rfl (q_loadS rfl Cs.A (by rfl) (by rfl)) ?_ | refine wl_val rfl rfl (q_lss1 rfl rfl (by omega)) ?_ | refine wl_val rfl rfl (q_lss0 rfl rfl (by omega)) ?_ | refine wl_lss rfl rfl rfl rfl (fun tt => ?_) (fun tt => ?_) | refine wl_val rfl rfl (q_addw rfl rfl) ?_))
  refine W_loop (fun i : Nat => [(8, .int .i64 (i : Int)), (0, .slice A xs.length c), (1, .func (.func 67) #[] #[]), (7, .int .i64 (xs.length : Int))]) (fun i w' => Gr w w' ∧ i ≤ xs.length ∧ ∀ x ∈ xs.take i, forced x = false) (fun i => xs.length - i) 0 ⟨rfl, rfl, rfl, rfl, trivial⟩ ⟨Gr.A, by omega, by simp⟩ ?_
  rintro i w' ⟨g, hi, hv⟩
  by_cases hlt : i < xs.length
  · obtain ⟨x, hx⟩ : ∃ x, xs[i]? = some x := ⟨_, List.getElem?_eq_getElem hlt⟩
    have hs := hS.nn (by omega)
    have cx := (hS.el i x hx).gr g
    cases hf : forced x
    · repeat' (first | refine wl_nil ?_ | refine Th_normal ?_ | refine W_seq ?_ | refine W_region ?_ | refine W_condT rfl ?_ | refine W_condF rfl ?_ | refine W_block ?_ | refine W_ret ?_ | refine W_exit ?_ | refine W_skip ?_ | refine Th_ret ?_ | refine Th_exit ?_ | refine Bl_normal ?_ | refine Bl_ret ?_ | refine Bl_exit rfl ?_ | refine Bl_pass rfl ?_ | refine W_condB rfl (fun tt => ?_) (fun tt => ?_) | (show fnPost _ _ _ _ _ _ _; refine fret (rv1 rfl rfl) ?_) | (show WL _ _ _ _ _ _ _; first | (refine wl_do rfl rfl ?_; refine st_callF (us := [vT x]) rfl Try.func67 rfl rfl rfl rfl (impl_isForcedE x _ _ hf) ?_; rintro e w1 ⟨rfl, g1⟩; refine ⟨_, rfl, ?_⟩) | refine wl_val rfl rfl (q_pv rfl) ?_ | refine wl_val rfl rfl (q_add rfl rfl (by omega)) ?_ | refine wl_val rfl rfl (q_len rfl) ?_ | refine wl_val rfl rfl (q_lenS rfl) ?_ | refine wl_val rfl rfl (q_indexAddr _ rfl rfl rfl (by omega) (by first | assumption | rfl)) ?_ | refine wl_val rfl rfl (q_indexAddrI rfl rfl (by omega) (by omega) (by first | assumption | rfl)) ?_ | refine wl_val rfl rfl (q_loadA rfl Cs.A (by rfl)) ?_ | refine wl_val rfl rfl (q_load1 rfl Cs.A (by rfl)) ?_ | refine wl_val rfl rfl (q_loadS rfl Cs.A (by rfl) (by rfl)) ?_ | refine wl_val rfl rfl (q_lss1 rfl rfl (by omega)) ?_ | refine wl_val rfl rfl (q_lss0 rfl rfl (by omega)) ?_ | refine wl_lss rfl rfl rfl rfl (fun tt => ?_) (fun tt => ?_) | refine wl_val rfl rfl (q_addw rfl rfl) ?_))
      exact ⟨i + 1, by omega, ⟨Gr.A, by omega, fun y hy => by
        rw [List.take_add_one, hx] at hy
        simp only [Option.toList_some, List.mem_append, List.mem_singleton] at hy
        rcases hy with hy | rfl
        · exact hv y hy
        · exact hf⟩, ⟨rfl, rfl, rfl, rfl, trivial⟩⟩
    · repeat' (first | refine wl_nil ?_ | refine Th_normal ?_ | refine W_seq ?_ | refine W_region ?_ | refine W_condT rfl ?_ | refine W_condF rfl ?_ | refine W_block ?_ | refine W_ret ?_ | refine W_exit ?_ | refine W_skip ?_ | refine Th_ret ?_ | refine Th_exit ?_ | refine Bl_normal ?_ | refine Bl_ret ?_ | refine Bl_exit rfl ?_ | refine Bl_pass rfl ?_ | refine W_condB rfl (fun tt => ?_) (fun tt => ?_) | (show fnPost _ _ _ _ _ _ _; refine fret (rv1 rfl rfl) ?_) | (show WL _ _ _ _ _ _ _; first | (refine wl_do rfl rfl ?_; refine st_callF (us := [vT x]) rfl Try.func67 rfl rfl rfl rfl (impl_isForcedE x _ _ hf) ?_; rintro e w1 ⟨rfl, g1⟩; refine ⟨_, rfl, ?_⟩) | refine wl_val rfl rfl (q_pv rfl) ?_ | refine wl_val rfl rfl (q_add rfl rfl (by omega)) ?_ | refine wl_val rfl rfl (q_len rfl) ?_ | refine wl_val rfl rfl (q_lenS rfl) ?_ | refine wl_val rfl rfl (q_indexAddr _ rfl rfl rfl (by omega) (by first | assumption | rfl)) ?_ | refine wl_val rfl rfl (q_indexAddrI rfl rfl (by omega) (by omega) (by first | assumption | rfl)) ?_ | refine wl_val rfl rfl (q_loadA rfl Cs.A (by rfl)) ?_ | refine wl_val rfl rfl (q_load1 rfl Cs.A (by rfl)) ?_ | refine wl_val rfl rfl (q_loadS rfl Cs.A (by rfl) (by rfl)) ?_ | refine wl_val rfl rfl (q_lss1 rfl rfl (by omega)) ?_ | refine wl_val rfl rfl (q_lss0 rfl rfl (by omega)) ?_ | refine wl_lss rfl rfl rfl rfl (fun tt => ?_) (fun tt => ?_) | refine wl_val rfl rfl (q_addw rfl rfl) ?_))
      exact ⟨_, rfl, Gr.A, fun _ => by omega, fun h => by
        rw [List.any_eq_false] at h
        exact absurd hf (h x (List.mem_of_getElem? hx))⟩
  · repeat' (first | refine wl_nil ?_ | refine Th_normal ?_ | refine W_seq ?_ | refine W_region ?_ | refine W_condT rfl ?_ | refine W_condF rfl ?_ | refine W_block ?_ | refine W_ret ?_ | refine W_exit ?_ | refine W_skip ?_ | refine Th_ret ?_ | refine Th_exit ?_ | refine Bl_normal ?_ | refine Bl_ret ?_ | refine Bl_exit rfl ?_ | refine Bl_pass rfl ?_ | refine W_condB rfl (fun tt => ?_) (fun tt => ?_) | (show fnPost _ _ _ _ _ _ _; refine fret (rv1 rfl rfl) ?_) | (show WL _ _ _ _ _ _ _; first | refine wl_val rfl rfl (q_pv rfl) ?_ | refine wl_val rfl rfl (q_add rfl rfl (by omega)) ?_ | refine wl_val rfl rfl (q_len rfl) ?_ | refine wl_val rfl rfl (q_lenS rfl) ?_ | refine wl_val rfl rfl (q_indexAddr _ rfl rfl rfl (by omega) (by first | assumption | rfl)) ?_ | refine wl_val rfl rfl (q_indexAddrI rfl rfl (by omega) (by omega) (by first | assumption | rfl)) ?_ | refine wl_val rfl rfl (q_loadA rfl Cs.A (by rfl)) ?_ | refine wl_val rfl rfl (q_load1 rfl Cs.A (by rfl)) ?_ | refine wl_val rfl rfl (q_loadS rfl Cs.A (by rfl) (by rfl)) ?_ | refine wl_val rfl rfl (q_lss1 rfl rfl (by omega)) ?_ | refine wl_val rfl rfl (q_lss0 rfl rfl (by omega)) ?_ | refine wl_lss rfl rfl rfl rfl (fun tt => ?_) (fun tt => ?_) | refine wl_val rfl rfl (q_addw rfl rfl) ?_))
    rw [List.take_of_length_le (by omega)] at hv
    have ha : xs.any forced = false := by
      rw [List.any_eq_false]
      intro x hx
      simp [hv x hx]
    exact ⟨_, rfl, Gr.A, (fun h => by rw [ha] at h; cases h), fun _ => rfl⟩

theorem slices_ContainsFunc (A : Option Addr) (c : Nat) (xs : List Item) (m : Nat) (w : World) (hS : Sl w A 6 encT xs) (hm : xs.length = m) (hl : m ≤ 1048576) :
    Calls Try.prog 98 #[.slice A m c, .func (.func 67) #[] #[]] w fun e w' => e = .returned (.bool (xs.any forced)) ∧ Gr w w' := by
  cases ha : xs.any forced
  all_goals
    refine calls_W Try.func98 rfl Try.ntmps98 rfl ?_
    repeat' (first | refine wl_nil ?_ | refine Th_normal ?_ | refine W_seq ?_ | refine W_region ?_ | refine W_condT rfl ?_ | refine W_condF rfl ?_ | refine W_block ?_ | refine W_ret ?_ | refine W_exit ?_ | refine W_skip ?_ | refine Th_ret ?_ | refine Th_exit ?_ | refine Bl_normal ?_ | refine Bl_ret ?_ | refine Bl_exit rfl ?_ | refine Bl_pass rfl ?_ | refine W_condB rfl (fun tt => ?_) (fun tt => ?_) | (show fnPost _ _ _ _ _ _ _; refine fret (rv1 rfl rfl) ?_) | (show WL _ _ _ _ _ _ _; first | (refine wl_do (op := .call { callee := .value (.func 114), args := _, argTypes := _ }) rfl rfl ?_; refine st_call Try.func114 rfl rfl rfl (slices_IndexFunc _ _ xs _ _ (hS.gr Gr.A) hm hl) ?_; rintro e w1 ⟨k, rfl, g1, k1, k2⟩; refine ⟨_, rfl, ?_⟩; first|(have k3 := k1 ha)|(have k3 := k2 ha)) | refine wl_val rfl rfl (q_pv rfl) ?_ | refine wl_val rfl rfl (q_geq1 rfl rfl (by omega)) ?_ | refine wl_val rfl rfl (q_geq0 rfl rfl (by omega)) ?_ | refine wl_geq rfl rfl rfl rfl (fun tt => ?_) (fun tt => ?_)))
    exact ⟨rfl, Gr.A⟩

theorem impl_isLine (A : Option Addr) (c : Nat) (xs : List Item) (f t : Int) (b : Bool) (w : World) (hS : Sl w A 6 encT xs) (hl : xs.length ≤ 1048576) (hc : xs.length ≤ c) (h : lineOk xs f t = b) :
    Calls Try.prog 68 #[.slice A xs.length c, .int .i64 f, .int .i64 t] w fun e w' => e = .returned (.bool b) ∧ Gr w w' := by
  by_cases h1 : f < t ∧ (f = -1 ∨ brk xs f = true) ∧ brk xs t = true
  · obtain ⟨h1, h2, h3⟩ := h1
    obtain ⟨q1, q2, _⟩ := brk_iff.1 h3
    have hsub := Sl.sub (l := (f + 1).toNat) (h := t.toNat) hS hc (by omega)
    have e1 : lineOk xs f t = !(seg xs f t).any forced := by simp [lineOk, h1, h2, h3]
    rw [e1] at h
    have hlen := seg_length (xs := xs) (f := f) (t := t) (by omega)
    rcases h2 with h2 | h2
    · subst h2
      refine calls_W Try.func68 rfl Try.ntmps68 rfl ?_
      repeat' (first | refine wl_nil ?_ | refine Th_normal ?_ | refine W_seq ?_ | refine W_region ?_ | refine W_condT rfl ?_ | refine W_condF rfl ?_ | refine W_block ?_ | refine W_ret ?_ | refine W_exit ?_ | refine W_skip ?_ | refine Th_ret ?_ | refine Th_exit ?_ | refine Bl_normal ?_ | refine Bl_ret ?_ | refine Bl_exit rfl ?_ | refine Bl_pass rfl ?_ | refine W_condB rfl (fun tt => ?_) (fun tt => ?_) | (show fnPost _ _ _ _ _ _ _; refine fret (rv1 rfl rfl) ?_) | (show WL _ _ _ _ _ _ _; first | (refine wl_do (op := .call { callee := .value (.func 97), args := _, argTypes := _ }) rfl rfl ?_; refine st_callV Try.func97 rfl rfl rfl (impl_isBreak _ _ _ _ true _ (hS.gr Gr.A) hl h3) (fun w1 g1 z1 => ?_)) | (refine wl_do (op := .call { callee := .value (.func 98), args := _, argTypes := _ }) rfl rfl ?_; refine st_callV Try.func98 rfl rfl rfl (slices_ContainsFunc _ _ (seg xs (-1) t) _ _ (hsub.gr Gr.A) (by omega) (by omega)) (fun w1 g1 z1 => ?_)) | (refine wl_val rfl rfl (q_sliceZ rfl rfl rfl (by omega) (by omega) (by omega)) ?_) | refine wl_val rfl rfl (q_pv rfl) ?_ | refine wl_skip rfl rfl ?_ | refine wl_val rfl rfl (q_add rfl rfl (by omega)) ?_ | refine wl_val rfl rfl (q_geq1 rfl rfl (by omega)) ?_ | refine wl_val rfl rfl (q_geq0 rfl rfl (by omega)) ?_ | refine wl_geq rfl rfl rfl rfl (fun tt => ?_) (fun tt => ?_) | refine wl_val rfl rfl (q_neq1 rfl rfl (by omega)) ?_ | refine wl_val rfl rfl (q_neq0 rfl rfl (by omega)) ?_ | refine wl_neq rfl rfl rfl rfl (fun tt => ?_) (fun tt => ?_) | refine wl_val rfl rfl (q_neqB rfl rfl) ?_ | refine wl_val rfl rfl (q_addw rfl rfl) ?_))
      exact ⟨ret_bool h, Gr.A⟩
    · obtain ⟨q3, q4, _⟩ := brk_iff.1 h2
      refine calls_W Try.func68 rfl Try.ntmps68 rfl ?_
      repeat' (first | refine wl_nil ?_ | refine Th_normal ?_ | refine W_seq ?_ | refine W_region ?_ | refine W_condT rfl ?_ | refine W_condF rfl ?_ | refine W_block ?_ | refine W_ret ?_ | refine W_exit ?_ | refine W_skip ?_ | refine Th_ret ?_ | refine Th_exit ?_ | refine Bl_normal ?_ | refine Bl_ret ?_ | refine Bl_exit rfl ?_ | refine Bl_pass rfl ?_ | refine W_condB rfl (fun tt => ?_) (fun tt => ?_) | (show fnPost _ _ _ _ _ _ _; refine fret (rv1 rfl rfl) ?_) | (show WL _ _ _ _ _ _ _; first | (refine wl_do (op := .call { callee := .value (.func 97), args := _, argTypes := _ }) rfl rfl ?_; refine st_callV Try.func97 rfl rfl rfl (impl_isBreak _ _ _ f true _ (hS.gr Gr.A) hl h2) (fun w1 g1 z1 => ?_)) | (refine wl_do (op := .call { callee := .value (.func 97), args := _, argTypes := _ }) rfl rfl ?_; refine st_callV Try.func97 rfl rfl rfl (impl_isBreak _ _ _ t true _ (hS.gr Gr.A) hl h3) (fun w1 g1 z1 => ?_)) | (refine wl_do (op := .call { callee := .value (.func 98), args := _, argTypes := _ }) rfl rfl ?_; refine st_callV Try.func98 rfl rfl rfl (slices_ContainsFunc _ _ (seg xs f t) _ _ (hsub.gr Gr.A) (by omega) (by omega)) (fun w1 g1 z1 => ?_)) | (refine wl_val rfl rfl (q_sliceZ rfl rfl rfl (by omega) (by omega) (by omega)) ?_) | refine wl_val rfl rfl (q_pv rfl) ?_ | refine wl_skip rfl rfl ?_ | refine wl_val rfl rfl (q_add rfl rfl (by omega)) ?_ | refine wl_val rfl rfl (q_geq1 rfl rfl (by omega)) ?_ | refine wl_val rfl rfl (q_geq0 rfl rfl (by omega)) ?_ | refine wl_geq rfl rfl rfl rfl (fun tt => ?_) (fun tt => ?_) | refine wl_val rfl rfl (q_neq1 rfl rfl (by omega)) ?_ | refine wl_val rfl rfl (q_neq0 rfl rfl (by omega)) ?_ | refine wl_neq rfl rfl rfl rfl (fun tt => ?_) (fun tt => ?_) | refine wl_val rfl rfl (q_neqB rfl rfl) ?_ | refine wl_val rfl rfl (q_addw rfl rfl) ?_))
      exact ⟨ret_bool h, Gr.A⟩
  · have e1 : lineOk xs f t = false := by
      cases hb : lineOk xs f t
      · rfl
      · have := lineOk_iff.1 hb; exact absurd ⟨this.1, this.2.2.2.1, this.2.2.2.2.1⟩ h1
    rw [e1] at h
    subst h
    refine calls_W Try.func68 rfl Try.ntmps68 rfl ?_
    repeat' (first | refine wl_nil ?_ | refine Th_normal ?_ | refine W_seq ?_ | refine W_region ?_ | refine W_condT rfl ?_ | refine W_condF rfl ?_ | refine W_block ?_ | refine W_ret ?_ | refine W_exit ?_ | refine W_skip ?_ | refine Th_ret ?_ | refine Th_exit ?_ | refine Bl_normal ?_ | refine Bl_ret ?_ | refine Bl_exit rfl ?_ | refine Bl_pass rfl ?_ | refine W_condB rfl (fun tt => ?_) (fun tt => ?_) | (show fnPost _ _ _ _ _ _ _; refine fret (rv1 rfl rfl) ?_) | (show WL _ _ _ _ _ _ _; first | (refine wl_do (op := .call { callee := .value (.func 97), args := _, argTypes := _ }) rfl rfl ?_; refine st_callVB Try.func97 rfl rfl rfl (impl_isBreak _ _ _ _ _ _ (hS.gr Gr.A) hl rfl) (fun w1 g1 z1 tt => ?_) (fun w1 g1 z1 tt => ?_)) | (exfalso; exact h1 ⟨by omega, by first|(left; omega)|(right; assumption), by assumption⟩) | refine wl_val rfl rfl (q_pv rfl) ?_ | refine wl_skip rfl rfl ?_ | refine wl_val rfl rfl (q_add rfl rfl (by omega)) ?_ | refine wl_val rfl rfl (q_geq1 rfl rfl (by omega)) ?_ | refine wl_val rfl rfl (q_geq0 rfl rfl (by omega)) ?_ | refine wl_geq rfl rfl rfl rfl (fun tt => ?_) (fun tt => ?_) | refine wl_val rfl rfl (q_neq1 rfl rfl (by omega)) ?_ | refine wl_val rfl rfl (q_neq0 rfl rfl (by omega)) ?_ | refine wl_neq rfl rfl rfl rfl (fun tt => ?_) (fun tt => ?_) | refine wl_val rfl rfl (q_neqB rfl rfl) ?_ | refine wl_val rfl rfl (q_addw rfl rfl) ?_))
    all_goals exact ⟨rfl, Gr.A⟩

end Go.Proofs.Ytdenlafdbfbkoaa
