/- Contracts of the functions on words and their parts. -/
import Derived.Test.YtdenlafdbfbkoaaGlue
import Derived.Test.YtdenlafdbfbkoaaEnc
import Derived.Test.YtdenlafdbfbkoaaStr
import Derived.Test.YtdenlafdbfbkoaaPlnS
namespace Go.Proofs.Ytdenlafdbfbkoaa
open Go.RowKit
set_option linter.unusedVariables false
set_option linter.unusedSimpArgs false
set_option maxHeartbeats 1000000
attribute [local irreducible] W WL QV ST RV Th Bl fnPost Cs Bx pp ea Calls

theorem impl_isLower (u : UInt8) (b : Bool) (w : World) (h : lowB u = b) :
    Calls Try.prog 89 #[.int .u8 (u.toNat : Int)] w fun e w' => e = .returned (.bool b) ∧ w = w' := by
  subst h
  refine calls_W Try.func89 rfl Try.ntmps89 rfl ?_
  repeat' (first | refine wl_nil ?_ | refine Th_normal ?_ | refine W_seq ?_ | refine W_region ?_ | refine W_condT rfl ?_ | refine W_condF rfl ?_ | refine W_block ?_ | refine W_ret ?_ | refine W_exit ?_ | refine W_skip ?_ | refine Th_ret ?_ | refine Th_exit ?_ | refine Bl_normal ?_ | refine Bl_ret ?_ | refine Bl_exit rfl ?_ | refine Bl_pass rfl ?_ | refine W_condB rfl (fun tt => ?_) (fun tt => ?_) | (show fnPost _ _ _ _ _ _ _; refine fret (rv1 rfl rfl) ?_) | (show WL _ _ _ _ _ _ _; first | refine wl_val rfl rfl (q_pv rfl) ?_ | refine wl_skip rfl rfl ?_ | refine wl_val rfl rfl (q_leq1 rfl rfl (by omega)) ?_ | refine wl_val rfl rfl (q_leq0 rfl rfl (by omega)) ?_ | refine wl_leq rfl rfl rfl rfl (fun tt => ?_) (fun tt => ?_) | refine wl_val rfl rfl (q_geq1 rfl rfl (by omega)) ?_ | refine wl_val rfl rfl (q_geq0 rfl rfl (by omega)) ?_ | refine wl_geq rfl rfl rfl rfl (fun tt => ?_) (fun tt => ?_)))
  all_goals exact ⟨ret_bool (by simp [lowB]; omega), rfl⟩

theorem impl_validWord (l : List UInt8) (b : Bool) (w : World) (hl : l.length ≤ 9223372036854775807) (h : wordOk l = b) :
    Calls Try.prog 58 #[str l] w fun e w' => e = .returned (.bool b) ∧ Gr w w' := by
  refine calls_W Try.func58 rfl Try.ntmps58 rfl ?_
  repeat' (first | refine wl_nil ?_ | refine Th_normal ?_ | refine W_seq ?_ | refine W_region ?_ | refine W_condT rfl ?_ | refine W_condF rfl ?_ | refine W_block ?_ | refine W_ret ?_ | refine W_exit ?_ | refine W_skip ?_ | refine Th_ret ?_ | refine Th_exit ?_ | refine Bl_normal ?_ | refine Bl_ret ?_ | refine Bl_exit rfl ?_ | refine Bl_pass rfl ?_ | refine W_condB rfl (fun tt => ?_) (fun tt => ?_) | (show fnPost _ _ _ _ _ _ _; refine fret (rv1 rfl rfl) ?_) | (show WL _ _ _ _ _ _ _; first | refine wl_val rfl rfl (q_pv rfl) ?_ | refine wl_val rfl rfl (q_add rfl rfl (by omega)) ?_ | refine wl_val rfl rfl (q_len rfl) ?_ | refine wl_val rfl rfl (q_lenS rfl) ?_ | refine wl_val rfl rfl (q_lss1 rfl rfl (by omega)) ?_ | refine wl_val rfl rfl (q_lss0 rfl rfl (by omega)) ?_ | refine wl_lss rfl rfl rfl rfl (fun tt => ?_) (fun tt => ?_) | refine wl_val rfl rfl (q_addw rfl rfl) ?_))
  refine W_loop (fun i : Nat => [(6, .int .i64 (i : Int)), (0, str l), (5, .int .i64 (l.length : Int))]) (fun i w' => Gr w w' ∧ i ≤ l.length ∧ ∀ u ∈ l.take i, lowB u = true) (fun i => l.length - i) 0 ⟨rfl, rfl, rfl, trivial⟩ ⟨Gr.A, by omega, by simp⟩ ?_
  rintro i w' ⟨g, hi, hv⟩
  by_cases hlt : i < l.length
  · obtain ⟨u, hu⟩ : ∃ u, l[i]? = some u := ⟨_, List.getElem?_eq_getElem hlt⟩
    have hu2 : l[((i : Nat) : Int).toNat]? = some u := by simpa using hu
    cases hlw : lowB u
    · have := word_bad hu hlw
      rw [this] at h
      subst h
      repeat' (first | refine wl_nil ?_ | refine Th_normal ?_ | refine W_seq ?_ | refine W_region ?_ | refine W_condT rfl ?_ | refine W_condF rfl ?_ | refine W_block ?_ | refine W_ret ?_ | refine W_exit ?_ | refine W_skip ?_ | refine Th_ret ?_ | refine Th_exit ?_ | refine Bl_normal ?_ | refine Bl_ret ?_ | refine Bl_exit rfl ?_ | refine Bl_pass rfl ?_ | refine W_condB rfl (fun tt => ?_) (fun tt => ?_) | (show fnPost _ _ _ _ _ _ _; refine fret (rv1 rfl rfl) ?_) | (show WL _ _ _ _ _ _ _; first | (refine wl_do (op := .call { callee := .value (.func 89), args := _, argTypes := _ }) rfl rfl ?_; refine st_callP Try.func89 rfl rfl rfl (impl_isLower u _ _ hlw) ?_) | (refine wl_val rfl rfl (q_indexT u rfl rfl (by omega) hu2) ?_) | refine wl_val rfl rfl (q_pv rfl) ?_ | refine wl_val rfl rfl (q_add rfl rfl (by omega)) ?_ | refine wl_val rfl rfl (q_len rfl) ?_ | refine wl_val rfl rfl (q_lenS rfl) ?_ | refine wl_val rfl rfl (q_lss1 rfl rfl (by omega)) ?_ | refine wl_val rfl rfl (q_lss0 rfl rfl (by omega)) ?_ | refine wl_lss rfl rfl rfl rfl (fun tt => ?_) (fun tt => ?_) | refine wl_val rfl rfl (q_addw rfl rfl) ?_))
      exact ⟨rfl, Gr.A⟩
    · repeat' (first | refine wl_nil ?_ | refine Th_normal ?_ | refine W_seq ?_ | refine W_region ?_ | refine W_condT rfl ?_ | refine W_condF rfl ?_ | refine W_block ?_ | refine W_ret ?_ | refine W_exit ?_ | refine W_skip ?_ | refine Th_ret ?_ | refine Th_exit ?_ | refine Bl_normal ?_ | refine Bl_ret ?_ | refine Bl_exit rfl ?_ | refine Bl_pass rfl ?_ | refine W_condB rfl (fun tt => ?_) (fun tt => ?_) | (show fnPost _ _ _ _ _ _ _; refine fret (rv1 rfl rfl) ?_) | (show WL _ _ _ _ _ _ _; first | (refine wl_do (op := .call { callee := .value (.func 89), args := _, argTypes := _ }) rfl rfl ?_; refine st_callP Try.func89 rfl rfl rfl (impl_isLower u _ _ hlw) ?_) | (refine wl_val rfl rfl (q_indexT u rfl rfl (by omega) hu2) ?_) | refine wl_val rfl rfl (q_pv rfl) ?_ | refine wl_val rfl rfl (q_add rfl rfl (by omega)) ?_ | refine wl_val rfl rfl (q_len rfl) ?_ | refine wl_val rfl rfl (q_lenS rfl) ?_ | refine wl_val rfl rfl (q_lss1 rfl rfl (by omega)) ?_ | refine wl_val rfl rfl (q_lss0 rfl rfl (by omega)) ?_ | refine wl_lss rfl rfl rfl rfl (fun tt => ?_) (fun tt => ?_) | refine wl_val rfl rfl (q_addw rfl rfl) ?_))
      exact ⟨i + 1, by omega, ⟨Gr.A, by omega, fun v hv2 => by
        rw [List.take_add_one, hu] at hv2
        simp only [Option.toList_some, List.mem_append, List.mem_singleton] at hv2
        rcases hv2 with hv2 | rfl
        · exact hv v hv2
        · exact hlw⟩, ⟨rfl, rfl, rfl, trivial⟩⟩
  · rw [List.take_of_length_le (by omega)] at hv
    have e : inR l.length 1 20 = b := by
      rw [← h, wordOk, List.all_eq_true.2 hv]; rfl
    cases hb : inR (l.length : Int) 1 20
    · repeat' (first | refine wl_nil ?_ | refine Th_normal ?_ | refine W_seq ?_ | refine W_region ?_ | refine W_condT rfl ?_ | refine W_condF rfl ?_ | refine W_block ?_ | refine W_ret ?_ | refine W_exit ?_ | refine W_skip ?_ | refine Th_ret ?_ | refine Th_exit ?_ | refine Bl_normal ?_ | refine Bl_ret ?_ | refine Bl_exit rfl ?_ | refine Bl_pass rfl ?_ | refine W_condB rfl (fun tt => ?_) (fun tt => ?_) | (show fnPost _ _ _ _ _ _ _; refine fret (rv1 rfl rfl) ?_) | (show WL _ _ _ _ _ _ _; first | (refine wl_do (op := .call { callee := .value (.func 57), args := _, argTypes := _ }) rfl rfl ?_; refine st_callP Try.func57 rfl rfl rfl (impl_withinF _ _ _ _ hb) ?_) | (refine wl_val rfl rfl (q_lenT rfl) ?_) | refine wl_val rfl rfl (q_pv rfl) ?_ | refine wl_val rfl rfl (q_add rfl rfl (by omega)) ?_ | refine wl_val rfl rfl (q_len rfl) ?_ | refine wl_val rfl rfl (q_lenS rfl) ?_ | refine wl_val rfl rfl (q_lss1 rfl rfl (by omega)) ?_ | refine wl_val rfl rfl (q_lss0 rfl rfl (by omega)) ?_ | refine wl_lss rfl rfl rfl rfl (fun tt => ?_) (fun tt => ?_) | refine wl_val rfl rfl (q_addw rfl rfl) ?_))
      exact ⟨ret_bool (by rw [← e, hb]), Gr.A⟩
    · repeat' (first | refine wl_nil ?_ | refine Th_normal ?_ | refine W_seq ?_ | refine W_region ?_ | refine W_condT rfl ?_ | refine W_condF rfl ?_ | refine W_block ?_ | refine W_ret ?_ | refine W_exit ?_ | refine W_skip ?_ | refine Th_ret ?_ | refine Th_exit ?_ | refine Bl_normal ?_ | refine Bl_ret ?_ | refine Bl_exit rfl ?_ | refine Bl_pass rfl ?_ | refine W_condB rfl (fun tt => ?_) (fun tt => ?_) | (show fnPost _ _ _ _ _ _ _; refine fret (rv1 rfl rfl) ?_) | (show WL _ _ _ _ _ _ _; first | (refine wl_do (op := .call { callee := .value (.func 57), args := _, argTypes := _ }) rfl rfl ?_; refine st_callP Try.func57 rfl rfl rfl (impl_withinT _ _ _ _ hb) ?_) | (refine wl_val rfl rfl (q_lenT rfl) ?_) | refine wl_val rfl rfl (q_pv rfl) ?_ | refine wl_val rfl rfl (q_add rfl rfl (by omega)) ?_ | refine wl_val rfl rfl (q_len rfl) ?_ | refine wl_val rfl rfl (q_lenS rfl) ?_ | refine wl_val rfl rfl (q_lss1 rfl rfl (by omega)) ?_ | refine wl_val rfl rfl (q_lss0 rfl rfl (by omega)) ?_ | refine wl_lss rfl rfl rfl rfl (fun tt => ?_) (fun tt => ?_) | refine wl_val rfl rfl (q_addw rfl rfl) ?_))
      exact ⟨ret_bool (by rw [← e, hb]), Gr.A⟩

theorem spec_isWord (l : List UInt8) (b : Bool) (w : World) (hl : l.length ≤ 9223372036854775807) (h : wordOk l = b) :
    Calls Try.prog 62 #[str l] w fun e w' => e = .returned (.bool b) ∧ Gr w w' := by
  refine calls_W Try.func62 rfl Try.ntmps62 rfl ?_
  repeat' (first | refine wl_nil ?_ | refine Th_normal ?_ | refine W_seq ?_ | refine W_region ?_ | refine W_condT rfl ?_ | refine W_condF rfl ?_ | refine W_block ?_ | refine W_ret ?_ | refine W_exit ?_ | refine W_skip ?_ | refine Th_ret ?_ | refine Th_exit ?_ | refine Bl_normal ?_ | refine Bl_ret ?_ | refine Bl_exit rfl ?_ | refine Bl_pass rfl ?_ | refine W_condB rfl (fun tt => ?_) (fun tt => ?_) | (show fnPost _ _ _ _ _ _ _; refine fret (rv1 rfl rfl) ?_) | (show WL _ _ _ _ _ _ _; first | refine wl_val rfl rfl (q_pv rfl) ?_ | refine wl_skip rfl rfl ?_ | refine wl_val rfl rfl (q_add rfl rfl (by omega)) ?_ | refine wl_val rfl rfl (q_len rfl) ?_ | refine wl_val rfl rfl (q_lenS rfl) ?_ | refine wl_val rfl rfl (q_lss1 rfl rfl (by omega)) ?_ | refine wl_val rfl rfl (q_lss0 rfl rfl (by omega)) ?_ | refine wl_lss rfl rfl rfl rfl (fun tt => ?_) (fun tt => ?_) | refine wl_val rfl rfl (q_gtr1 rfl rfl (by omega)) ?_ | refine wl_val rfl rfl (q_gtr0 rfl rfl (by omega)) ?_ | refine wl_gtr rfl rfl rfl rfl (fun tt => ?_) (fun tt => ?_) | refine wl_val rfl rfl (q_addw rfl rfl) ?_))
  refine W_loop (fun i : Nat => [(3, .int .i64 (i : Int)), (0, str l)]) (fun i w' => Gr w w' ∧ i ≤ l.length ∧ ∀ u ∈ l.take i, lowB u = true) (fun i => l.length - i) 0 ⟨rfl, rfl, trivial⟩ ⟨Gr.A, by omega, by simp⟩ ?_
  rintro i w' ⟨g, hi, hv⟩
  by_cases hlt : i < l.length
  · obtain ⟨u, hu⟩ : ∃ u, l[i]? = some u := ⟨_, List.getElem?_eq_getElem hlt⟩
    have hu2 : l[((i : Nat) : Int).toNat]? = some u := by simpa using hu
    by_cases hlw : 97 ≤ (u.toNat : Int) ∧ (u.toNat : Int) ≤ 122
    · have hlw2 : lowB u = true := by simp only [lowB, Bool.and_eq_true, decide_eq_true_eq]; exact hlw
      obtain ⟨a1, a2⟩ := hlw
      repeat' (first | refine wl_nil ?_ | refine Th_normal ?_ | refine W_seq ?_ | refine W_region ?_ | refine W_condT rfl ?_ | refine W_condF rfl ?_ | refine W_block ?_ | refine W_ret ?_ | refine W_exit ?_ | refine W_skip ?_ | refine Th_ret ?_ | refine Th_exit ?_ | refine Bl_normal ?_ | refine Bl_ret ?_ | refine Bl_exit rfl ?_ | refine Bl_pass rfl ?_ | refine W_condB rfl (fun tt => ?_) (fun tt => ?_) | (show fnPost _ _ _ _ _ _ _; refine fret (rv1 rfl rfl) ?_) | (show WL _ _ _ _ _ _ _; first | (refine wl_val rfl rfl (q_lenT rfl) ?_) | (refine wl_val rfl rfl (q_indexT u rfl rfl (by omega) hu2) ?_) | refine wl_val rfl rfl (q_pv rfl) ?_ | refine wl_skip rfl rfl ?_ | refine wl_val rfl rfl (q_add rfl rfl (by omega)) ?_ | refine wl_val rfl rfl (q_len rfl) ?_ | refine wl_val rfl rfl (q_lenS rfl) ?_ | refine wl_val rfl rfl (q_lss1 rfl rfl (by omega)) ?_ | refine wl_val rfl rfl (q_lss0 rfl rfl (by omega)) ?_ | refine wl_lss rfl rfl rfl rfl (fun tt => ?_) (fun tt => ?_) | refine wl_val rfl rfl (q_gtr1 rfl rfl (by omega)) ?_ | refine wl_val rfl rfl (q_gtr0 rfl rfl (by omega)) ?_ | refine wl_gtr rfl rfl rfl rfl (fun tt => ?_) (fun tt => ?_) | refine wl_val rfl rfl (q_addw rfl rfl) ?_))
      exact ⟨i + 1, by omega, ⟨Gr.A, by omega, fun v hv2 => by
        rw [List.take_add_one, hu] at hv2
        simp only [Option.toList_some, List.mem_append, List.mem_singleton] at hv2
        rcases hv2 with hv2 | rfl
        · exact hv v hv2
        · exact hlw2⟩, ⟨rfl, rfl, trivial⟩⟩
    · have hlw2 : lowB u = false := by
        cases hx : lowB u
        · rfl
        · simp only [lowB, Bool.and_eq_true, decide_eq_true_eq] at hx; exact absurd hx hlw
      have := word_bad hu hlw2
      rw [this] at h
      subst h
      repeat' (first | refine wl_nil ?_ | refine Th_normal ?_ | refine W_seq ?_ | refine W_region ?_ | refine W_condT rfl ?_ | refine W_condF rfl ?_ | refine W_block ?_ | refine W_ret ?_ | refine W_exit ?_ | refine W_skip ?_ | refine Th_ret ?_ | refine Th_exit ?_ | refine Bl_normal ?_ | refine Bl_ret ?_ | refine Bl_exit rfl ?_ | refine Bl_pass rfl ?_ | refine W_condB rfl (fun tt => ?_) (fun tt => ?_) | (show fnPost _ _ _ _ _ _ _; refine fret (rv1 rfl rfl) ?_) | (show WL _ _ _ _ _ _ _; first | (refine wl_val rfl rfl (q_lenT rfl) ?_) | (refine wl_val rfl rfl (q_indexT u rfl rfl (by omega) hu2) ?_) | (exfalso; omega) | refine wl_val rfl rfl (q_pv rfl) ?_ | refine wl_skip rfl rfl ?_ | refine wl_val rfl rfl (q_add rfl rfl (by omega)) ?_ | refine wl_val rfl rfl (q_len rfl) ?_ | refine wl_val rfl rfl (q_lenS rfl) ?_ | refine wl_val rfl rfl (q_lss1 rfl rfl (by omega)) ?_ | refine wl_val rfl rfl (q_lss0 rfl rfl (by omega)) ?_ | refine wl_lss rfl rfl rfl rfl (fun tt => ?_) (fun tt => ?_) | refine wl_val rfl rfl (q_gtr1 rfl rfl (by omega)) ?_ | refine wl_val rfl rfl (q_gtr0 rfl rfl (by omega)) ?_ | refine wl_gtr rfl rfl rfl rfl (fun tt => ?_) (fun tt => ?_) | refine wl_val rfl rfl (q_addw rfl rfl) ?_))
      all_goals exact ⟨rfl, Gr.A⟩
  · rw [List.take_of_length_le (by omega)] at hv
    have e : inR l.length 1 20 = b := by
      rw [← h, wordOk, List.all_eq_true.2 hv]; rfl
    repeat' (first | refine wl_nil ?_ | refine Th_normal ?_ | refine W_seq ?_ | refine W_region ?_ | refine W_condT rfl ?_ | refine W_condF rfl ?_ | refine W_block ?_ | refine W_ret ?_ | refine W_exit ?_ | refine W_skip ?_ | refine Th_ret ?_ | refine Th_exit ?_ | refine Bl_normal ?_ | refine Bl_ret ?_ | refine Bl_exit rfl ?_ | refine Bl_pass rfl ?_ | refine W_condB rfl (fun tt => ?_) (fun tt => ?_) | (show fnPost _ _ _ _ _ _ _; refine fret (rv1 rfl rfl) ?_) | (show WL _ _ _ _ _ _ _; first | (refine wl_do (op := .call { callee := .value (.func 82), args := _, argTypes := _ }) rfl rfl ?_; refine st_callP Try.func82 rfl rfl rfl (spec_inRange _ _ _ _) ?_) | (refine wl_val rfl rfl (q_lenT rfl) ?_) | refine wl_val rfl rfl (q_pv rfl) ?_ | refine wl_skip rfl rfl ?_ | refine wl_val rfl rfl (q_add rfl rfl (by omega)) ?_ | refine wl_val rfl rfl (q_len rfl) ?_ | refine wl_val rfl rfl (q_lenS rfl) ?_ | refine wl_val rfl rfl (q_lss1 rfl rfl (by omega)) ?_ | refine wl_val rfl rfl (q_lss0 rfl rfl (by omega)) ?_ | refine wl_lss rfl rfl rfl rfl (fun tt => ?_) (fun tt => ?_) | refine wl_val rfl rfl (q_gtr1 rfl rfl (by omega)) ?_ | refine wl_val rfl rfl (q_gtr0 rfl rfl (by omega)) ?_ | refine wl_gtr rfl rfl rfl rfl (fun tt => ?_) (fun tt => ?_) | refine wl_val rfl rfl (q_addw rfl rfl) ?_))
    exact ⟨ret_bool e, Gr.A⟩

end Go.Proofs.Ytdenlafdbfbkoaa
