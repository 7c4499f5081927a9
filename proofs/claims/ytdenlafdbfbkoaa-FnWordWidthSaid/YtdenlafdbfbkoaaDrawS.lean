/- The generators of words and places: they come to an end, and their results are some text, some numbers. -/
import Derived.Test.YtdenlafdbfbkoaaRead
import Derived.Test.YtdenlafdbfbkoaaMarkS
namespace Go.Proofs.Ytdenlafdbfbkoaa
open Go.RowKit
set_option linter.unusedVariables false
set_option linter.unusedSimpArgs false
set_option maxHeartbeats 1000000
attribute [local irreducible] W WL QV ST RV Th Bl fnPost Cs Bx pp ea Calls
set_option maxRecDepth 100000

theorem spec_randomWord (r : Nat) (p : Int) (w : World) (hR : Rd w r p) (hp0 : 0 ≤ p) (hp1 : p ≤ 100000) :
    Calls Try.prog 53 #[pp ⟨r, 0, none⟩ 0] w fun e w' => ∃ l p', e = .returned (str l) ∧ Fr r w w' ∧ Rd w' r p' ∧ p ≤ p' ∧ p' ≤ p + 20 ∧ 1 ≤ l.length ∧ l.length ≤ 8 := by
  have hr := hR.lt
  refine calls_W Try.func53 rfl Try.ntmps53 rfl ?_
  repeat' (first | refine wl_nil ?_ | refine Th_normal ?_ | refine W_seq ?_ | refine W_region ?_ | refine W_condT rfl ?_ | refine W_condF rfl ?_ | refine W_block ?_ | refine W_ret ?_ | refine W_exit ?_ | refine W_skip ?_ | refine Th_ret ?_ | refine Th_exit ?_ | refine Bl_normal ?_ | refine Bl_ret ?_ | refine Bl_exit rfl ?_ | refine Bl_pass rfl ?_ | refine W_condB rfl (fun tt => ?_) (fun tt => ?_) | (show fnPost _ _ _ _ _ _ _; refine fret (rv1 rfl rfl) ?_) | (show WL _ _ _ _ _ _ _; first | (refine wl_do (op := .call { callee := .value (.func 54), args := _, argTypes := _ }) rfl rfl ?_; refine st_call Try.func54 rfl rfl rfl (spec_pick r _ _ _ Rd.A (by omega) (by omega) (by omega)) ?_; rintro e w1 ⟨k, rfl, g1, h1, k0, k1⟩; refine ⟨_, rfl, ?_⟩; replace k1 := k1 (by omega); have z1 := g1.size) | refine wl_val rfl rfl (q_pv rfl) ?_ | refine wl_val rfl rfl (q_add rfl rfl (by omega)) ?_ | refine wl_val rfl rfl (q_sub rfl rfl (by omega)) ?_ | (refine wl_do rfl rfl ?_; first | refine st_buildSlice rfl rfl rfl (fun b w1 e1 g1 z1 f1 => ?_)) | refine wl_val rfl rfl (q_gtr1 rfl rfl (by omega)) ?_ | refine wl_val rfl rfl (q_gtr0 rfl rfl (by omega)) ?_ | refine wl_gtr rfl rfl rfl rfl (fun tt => ?_) (fun tt => ?_) | refine wl_val rfl rfl (q_conv rfl (IntWalk.i64_in _ (by omega))) ?_ | refine wl_val rfl rfl (q_addw rfl rfl) ?_ | refine wl_val rfl rfl (q_subw rfl rfl) ?_))
  refine W_loop3 (fun (n p2 : Int) (l : List UInt8) => [(4, .int .i64 n), (0, pp ⟨r, 0, none⟩ 0), (3, str l)]) (fun n p2 l w' => Fr r w w' ∧ Rd w' r p2 ∧ 0 ≤ n ∧ p ≤ p2 ∧ p2 + n ≤ p + 9 ∧ (l.length : Int) + n ≤ 8 ∧ 1 ≤ (l.length : Int) + n) (fun n _ _ => n.toNat) (1 + k) _ [] ⟨rfl, rfl, rfl, trivial⟩ ⟨Fr.A, by assumption, by omega, by omega, by omega, by simp; omega, by simp; omega⟩ ?_
  rintro n p2 l w' ⟨g, hR2, i0, i1, i2, i3, i4⟩
  have hz := g.size
  repeat' (first | refine wl_nil ?_ | refine Th_normal ?_ | refine W_seq ?_ | refine W_region ?_ | refine W_condT rfl ?_ | refine W_condF rfl ?_ | refine W_block ?_ | refine W_ret ?_ | refine W_exit ?_ | refine W_skip ?_ | refine Th_ret ?_ | refine Th_exit ?_ | refine Bl_normal ?_ | refine Bl_ret ?_ | refine Bl_exit rfl ?_ | refine Bl_pass rfl ?_ | refine W_condB rfl (fun tt => ?_) (fun tt => ?_) | (show fnPost _ _ _ _ _ _ _; refine fret (rv1 rfl rfl) ?_) | (show WL _ _ _ _ _ _ _; first | (refine wl_do (op := .call { callee := .value (.func 54), args := _, argTypes := _ }) rfl rfl ?_; refine st_call Try.func54 rfl rfl rfl (spec_pick r _ _ _ Rd.A (by omega) (by omega) (by omega)) ?_; rintro e w1 ⟨k, rfl, g1, h1, k0, k1⟩; refine ⟨_, rfl, ?_⟩; replace k1 := k1 (by omega); have z1 := g1.size) | (refine wl_val rfl rfl (q_convB rfl (by omega) (by omega)) ?_) | (refine wl_val rfl rfl (q_convBS (ns := [97 + k]) rfl (Bx.cs Bx.A) rfl) ?_) | (refine wl_val rfl rfl (q_catT rfl rfl (by simp [asBytes]; omega)) ?_) | refine wl_val rfl rfl (q_pv rfl) ?_ | refine wl_val rfl rfl (q_add rfl rfl (by omega)) ?_ | refine wl_val rfl rfl (q_sub rfl rfl (by omega)) ?_ | (refine wl_do rfl rfl ?_; first | refine st_buildSlice rfl rfl rfl (fun b w1 e1 g1 z1 f1 => ?_)) | refine wl_val rfl rfl (q_gtr1 rfl rfl (by omega)) ?_ | refine wl_val rfl rfl (q_gtr0 rfl rfl (by omega)) ?_ | refine wl_gtr rfl rfl rfl rfl (fun tt => ?_) (fun tt => ?_) | refine wl_val rfl rfl (q_conv rfl (IntWalk.i64_in _ (by omega))) ?_ | refine wl_val rfl rfl (q_addw rfl rfl) ?_ | refine wl_val rfl rfl (q_subw rfl rfl) ?_))
  all_goals first
    | exact ⟨n - 1, _, _, by omega, ⟨Fr.A, Rd.A, by omega, by omega, by omega, by simp [asBytes]; omega, by simp [asBytes]; omega⟩, ⟨rfl, rfl, rfl, trivial⟩⟩
    | exact ⟨l, _, rfl, Fr.A, Rd.A, by omega, by omega, by omega, by omega⟩

theorem spec_anyWord (r : Nat) (p : Int) (w : World) (hR : Rd w r p) (hp0 : 0 ≤ p) (hp1 : p ≤ 90000) :
    Calls Try.prog 55 #[pp ⟨r, 0, none⟩ 0] w fun e w' => ∃ l p', e = .returned (str l) ∧ Fr r w w' ∧ Rd w' r p' ∧ p ≤ p' ∧ p' ≤ p + 30 ∧ l.length ≤ 40 ∧ (l.length ≤ 9 ∨ 21 ≤ l.length) := by
  have hr := hR.lt
  refine calls_W Try.func55 rfl Try.ntmps55 rfl ?_
  repeat' (first | refine wl_nil ?_ | refine Th_normal ?_ | refine W_seq ?_ | refine W_region ?_ | refine W_condT rfl ?_ | refine W_condF rfl ?_ | refine W_block ?_ | refine W_ret ?_ | refine W_exit ?_ | refine W_skip ?_ | refine Th_ret ?_ | refine Th_exit ?_ | refine Bl_normal ?_ | refine Bl_ret ?_ | refine Bl_exit rfl ?_ | refine Bl_pass rfl ?_ | refine W_condB rfl (fun tt => ?_) (fun tt => ?_) | (show fnPost _ _ _ _ _ _ _; refine fret (rv1 rfl rfl) ?_) | (show WL _ _ _ _ _ _ _; first | (refine wl_do (op := .call { callee := .value (.func 53), args := _, argTypes := _ }) rfl rfl ?_; refine st_call Try.func53 rfl rfl rfl (spec_randomWord r _ _ Rd.A (by omega) (by omega)) ?_; rintro e w1 ⟨l, p1, rfl, g1, h1, q1, q2, q0, q3⟩; refine ⟨_, rfl, ?_⟩; have z1 := g1.size) | (refine wl_do (op := .call { callee := .value (.func 54), args := _, argTypes := _ }) rfl rfl ?_; refine st_call Try.func54 rfl rfl rfl (spec_pick r _ _ _ Rd.A (by omega) (by omega) (by omega)) ?_; rintro e w1 ⟨k, rfl, g1, h1, k0, k1⟩; refine ⟨_, rfl, ?_⟩; replace k1 := k1 (by omega); have z1 := g1.size) | (refine wl_val rfl rfl (q_catT rfl rfl (by simp; omega)) ?_) | refine wl_val rfl rfl (q_pv rfl) ?_ | refine wl_val rfl rfl (q_add rfl rfl (by omega)) ?_ | refine wl_val rfl rfl (q_eql1 rfl rfl (by omega)) ?_ | refine wl_val rfl rfl (q_eql0 rfl rfl (by omega)) ?_ | refine wl_eql rfl rfl rfl rfl (fun tt => ?_) (fun tt => ?_) | refine wl_val rfl rfl (q_eqlB rfl rfl) ?_ | refine wl_val rfl rfl (q_addw rfl rfl) ?_))
  all_goals first
    | exact ⟨l, _, rfl, Fr.A, Rd.A, by omega, by omega, by omega, by omega⟩
    | exact ⟨[], _, rfl, Fr.A, Rd.A, by omega, by omega, by simp, by simp⟩
    | exact ⟨_, _, rfl, Fr.A, Rd.A, by omega, by omega, by simp; omega, by simp; omega⟩

end Go.Proofs.Ytdenlafdbfbkoaa
