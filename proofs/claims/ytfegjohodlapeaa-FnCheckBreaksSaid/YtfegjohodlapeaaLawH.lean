/- The laws' own helpers on numbers: the last one, membership, equality. -/
import Derived.Test.YtfegjohodlapeaaMark
namespace Go.Proofs.Ytfegjohodlapeaa
open Go.RowKit
set_option linter.unusedVariables false
set_option linter.unusedSimpArgs false

theorem cs_lt {w : World} {a : Addr} {v : Value} {l : List Value} (h : Cs w a (v :: l)) : a.block < w.heap.size := by
  have := World.block_lt_of_cell? w _ (h 0 v rfl)
  rwa [add_block] at this

set_option maxHeartbeats 1000000
attribute [local irreducible] W WL QV ST RV Th Bl fnPost Cs Bx pp ea Calls

theorem laws_isIn (A : Option Addr) (c : Nat) (xs : List Int) (z : Int) (w : World) (hS : Sl w A 1 encI xs) (hz : z ∈ xs) (hl : xs.length ≤ 1048576) :
    Calls Try.prog 30 #[.slice A xs.length c, .int .i64 z] w fun e w' => e = .returned (.bool true) ∧ Gr w w' := by
  refine calls_W Try.func30 rfl Try.ntmps30 rfl ?_
  repeat' (first | refine wl_nil ?_ | refine Th_normal ?_ | refine W_seq ?_ | refine W_region ?_ | refine W_condT rfl ?_ | refine W_condF rfl ?_ | refine W_block ?_ | refine W_ret ?_ | refine W_exit ?_ | refine W_skip ?_ | refine Th_ret ?_ | refine Th_exit ?_ | refine Bl_normal ?_ | refine Bl_ret ?_ | refine Bl_exit rfl ?_ | refine Bl_pass rfl ?_ | refine W_condB rfl (fun tt => ?_) (fun tt => ?_) | (show fnPost _ _ _ _ _ _ _; refine fret (rv1 rfl rfl) ?_) | (show WL _ _ _ _ _ _ _; first | refine wl_val rfl rfl (q_pv rfl) ?_ | refine wl_val rfl rfl (q_add rfl rfl (by omega)) ?_ | refine wl_val rfl rfl (q_len rfl) ?_ | refine wl_val rfl rfl (q_lenS rfl) ?_ | refine wl_val rfl rfl (q_indexAddr _ rfl rfl rfl (by omega) (by first | assumption | rfl)) ?_ | refine wl_val rfl rfl (q_indexAddrI rfl rfl (by omega) (by omega) (by first | assumption | rfl)) ?_ | refine wl_val rfl rfl (q_loadA rfl (by repeat (first | assumption | exact Bx.cs (by assumption) | (apply Cs.gr; assumption) | (apply Cs.mv; assumption; focus (first | assumption | ((try dsimp only); omega))))) (by rfl)) ?_ | refine wl_val rfl rfl (q_load1 rfl (by repeat (first | assumption | exact Bx.cs (by assumption) | (apply Cs.gr; assumption) | (apply Cs.mv; assumption; focus (first | assumption | ((try dsimp only); omega))))) (by rfl)) ?_ | refine wl_val rfl rfl (q_loadS rfl (by repeat (first | assumption | exact Bx.cs (by assumption) | (apply Cs.gr; assumption) | (apply Cs.mv; assumption; focus (first | assumption | ((try dsimp only); omega))))) (by rfl) (by rfl)) ?_ | refine wl_val rfl rfl (q_lss1 rfl rfl (by omega)) ?_ | refine wl_val rfl rfl (q_lss0 rfl rfl (by omega)) ?_ | refine wl_lss rfl rfl rfl rfl (fun tt => ?_) (fun tt => ?_) | refine wl_val rfl rfl (q_eql1 rfl rfl (by omega)) ?_ | refine wl_val rfl rfl (q_eql0 rfl rfl (by omega)) ?_ | refine wl_eql rfl rfl rfl rfl (fun tt => ?_) (fun tt => ?_) | refine wl_val rfl rfl (q_eqlB rfl rfl) ?_ | refine wl_val rfl rfl (q_addw rfl rfl) ?_))
  refine W_loop (fun i : Nat => [(5, .int .i64 (i : Int)), (0, .slice A xs.length c), (1, .int .i64 z)]) (fun i w' => Gr w w' ∧ i ≤ xs.length ∧ ∀ j y, xs[j]? = some y → j < i → y ≠ z) (fun i => xs.length - i) 0 ⟨rfl, rfl, rfl, trivial⟩ ⟨(by repeat (first | exact Gr.refl _ | assumption | (apply Gr.trans; rotate_left; assumption) | (apply Gr.st; rotate_left; assumption; focus omega))), by omega, fun j y _ h => by omega⟩ ?_
  rintro i w' ⟨g, hi, hn⟩
  by_cases hlt : i < xs.length
  · obtain ⟨x, hx⟩ : ∃ x, xs[i]? = some x := ⟨_, List.getElem?_eq_getElem hlt⟩
    have hs := hS.nn (by omega)
    have cx := (hS.el i x hx).gr g
    by_cases hxz : x = z
    · repeat' (first | refine wl_nil ?_ | refine Th_normal ?_ | refine W_seq ?_ | refine W_region ?_ | refine W_condT rfl ?_ | refine W_condF rfl ?_ | refine W_block ?_ | refine W_ret ?_ | refine W_exit ?_ | refine W_skip ?_ | refine Th_ret ?_ | refine Th_exit ?_ | refine Bl_normal ?_ | refine Bl_ret ?_ | refine Bl_exit rfl ?_ | refine Bl_pass rfl ?_ | refine W_condB rfl (fun tt => ?_) (fun tt => ?_) | (show fnPost _ _ _ _ _ _ _; refine fret (rv1 rfl rfl) ?_) | (show WL _ _ _ _ _ _ _; first | refine wl_val rfl rfl (q_pv rfl) ?_ | refine wl_val rfl rfl (q_add rfl rfl (by omega)) ?_ | refine wl_val rfl rfl (q_len rfl) ?_ | refine wl_val rfl rfl (q_lenS rfl) ?_ | refine wl_val rfl rfl (q_indexAddr _ rfl rfl rfl (by omega) (by first | assumption | rfl)) ?_ | refine wl_val rfl rfl (q_indexAddrI rfl rfl (by omega) (by omega) (by first | assumption | rfl)) ?_ | refine wl_val rfl rfl (q_loadA rfl (by repeat (first | assumption | exact Bx.cs (by assumption) | (apply Cs.gr; assumption) | (apply Cs.mv; assumption; focus (first | assumption | ((try dsimp only); omega))))) (by rfl)) ?_ | refine wl_val rfl rfl (q_load1 rfl (by repeat (first | assumption | exact Bx.cs (by assumption) | (apply Cs.gr; assumption) | (apply Cs.mv; assumption; focus (first | assumption | ((try dsimp only); omega))))) (by rfl)) ?_ | refine wl_val rfl rfl (q_loadS rfl (by repeat (first | assumption | exact Bx.cs (by assumption) | (apply Cs.gr; assumption) | (apply Cs.mv; assumption; focus (first | assumption | ((try dsimp only); omega))))) (by rfl) (by rfl)) ?_ | refine wl_val rfl rfl (q_lss1 rfl rfl (by omega)) ?_ | refine wl_val rfl rfl (q_lss0 rfl rfl (by omega)) ?_ | refine wl_lss rfl rfl rfl rfl (fun tt => ?_) (fun tt => ?_) | refine wl_val rfl rfl (q_eql1 rfl rfl (by omega)) ?_ | refine wl_val rfl rfl (q_eql0 rfl rfl (by omega)) ?_ | refine wl_eql rfl rfl rfl rfl (fun tt => ?_) (fun tt => ?_) | refine wl_val rfl rfl (q_eqlB rfl rfl) ?_ | refine wl_val rfl rfl (q_addw rfl rfl) ?_))
      exact ⟨rfl, (by repeat (first | exact Gr.refl _ | assumption | (apply Gr.trans; rotate_left; assumption) | (apply Gr.st; rotate_left; assumption; focus omega)))⟩
    · repeat' (first | refine wl_nil ?_ | refine Th_normal ?_ | refine W_seq ?_ | refine W_region ?_ | refine W_condT rfl ?_ | refine W_condF rfl ?_ | refine W_block ?_ | refine W_ret ?_ | refine W_exit ?_ | refine W_skip ?_ | refine Th_ret ?_ | refine Th_exit ?_ | refine Bl_normal ?_ | refine Bl_ret ?_ | refine Bl_exit rfl ?_ | refine Bl_pass rfl ?_ | refine W_condB rfl (fun tt => ?_) (fun tt => ?_) | (show fnPost _ _ _ _ _ _ _; refine fret (rv1 rfl rfl) ?_) | (show WL _ _ _ _ _ _ _; first | refine wl_val rfl rfl (q_pv rfl) ?_ | refine wl_val rfl rfl (q_add rfl rfl (by omega)) ?_ | refine wl_val rfl rfl (q_len rfl) ?_ | refine wl_val rfl rfl (q_lenS rfl) ?_ | refine wl_val rfl rfl (q_indexAddr _ rfl rfl rfl (by omega) (by first | assumption | rfl)) ?_ | refine wl_val rfl rfl (q_indexAddrI rfl rfl (by omega) (by omega) (by first | assumption | rfl)) ?_ | refine wl_val rfl rfl (q_loadA rfl (by repeat (first | assumption | exact Bx.cs (by assumption) | (apply Cs.gr; assumption) | (apply Cs.mv; assumption; focus (first | assumption | ((try dsimp only); omega))))) (by rfl)) ?_ | refine wl_val rfl rfl (q_load1 rfl (by repeat (first | assumption | exact Bx.cs (by assumption) | (apply Cs.gr; assumption) | (apply Cs.mv; assumption; focus (first | assumption | ((try dsimp only); omega))))) (by rfl)) ?_ | refine wl_val rfl rfl (q_loadS rfl (by repeat (first | assumption | exact Bx.cs (by assumption) | (apply Cs.gr; assumption) | (apply Cs.mv; assumption; focus (first | assumption | ((try dsimp only); omega))))) (by rfl) (by rfl)) ?_ | refine wl_val rfl rfl (q_lss1 rfl rfl (by omega)) ?_ | refine wl_val rfl rfl (q_lss0 rfl rfl (by omega)) ?_ | refine wl_lss rfl rfl rfl rfl (fun tt => ?_) (fun tt => ?_) | refine wl_val rfl rfl (q_eql1 rfl rfl (by omega)) ?_ | refine wl_val rfl rfl (q_eql0 rfl rfl (by omega)) ?_ | refine wl_eql rfl rfl rfl rfl (fun tt => ?_) (fun tt => ?_) | refine wl_val rfl rfl (q_eqlB rfl rfl) ?_ | refine wl_val rfl rfl (q_addw rfl rfl) ?_))
      exact ⟨i + 1, by omega, ⟨(by repeat (first | exact Gr.refl _ | assumption | (apply Gr.trans; rotate_left; assumption) | (apply Gr.st; rotate_left; assumption; focus omega))), by omega, fun j y hy hj => by
        by_cases hji : j < i
        · exact hn j y hy hji
        · have : j = i := by omega
          subst this
          rw [hx] at hy
          cases hy
          exact hxz⟩, ⟨rfl, rfl, rfl, trivial⟩⟩
  · exfalso
    obtain ⟨j, hj⟩ := List.mem_iff_getElem?.1 hz
    exact hn j z hj (by have := (List.getElem?_eq_some_iff.1 hj).1; omega) rfl

theorem laws_equalIntsT (A B : Option Addr) (c d : Nat) (xs : List Int) (w : World) (hS : Sl w A 1 encI xs) (hT : Sl w B 1 encI xs) (hl : xs.length ≤ 1048576) :
    Calls Try.prog 29 #[.slice A xs.length c, .slice B xs.length d] w fun e w' => e = .returned (.bool true) ∧ Gr w w' := by
  have := laws_equalInts A B c d xs xs w hS hT (by omega) (by omega)
  simpa using this

end Go.Proofs.Ytfegjohodlapeaa
