/- The law on parted words: its walk. -/
import Derived.Test.YtncgflkkmccadaaSpw
import Derived.Test.YtncgflkkmccadaaDrawS
namespace Go.Proofs.Ytncgflkkmccadaa
open Go.RowKit
set_option linter.unusedVariables false
set_option linter.unusedSimpArgs false

theorem split_join {l : List UInt8} : ∀ (ps : List Int) (f : Int) (r : List (List UInt8)), 0 ≤ f → f < l.length → splitGo l f ps = some r → r.flatten = l.drop f.toNat ∧ ∀ x ∈ r, 0 < x.length
  | [], f, r, h0, h1, h => by
    simp only [splitGo, Option.some.injEq] at h
    subst h
    refine ⟨by simp, fun x hx => ?_⟩
    simp only [List.mem_singleton] at hx
    subst hx
    simp
    omega
  | p :: ps, f, r, h0, h1, h => by
    rw [splitGo] at h
    split at h
    · cases h
    · obtain ⟨r2, hr, rfl⟩ := Option.map_eq_some_iff.1 h
      obtain ⟨ih1, ih2⟩ := split_join ps p r2 (by omega) (by omega) hr
      refine ⟨?_, fun x hx => ?_⟩
      · simp only [List.flatten_cons, ih1]
        have := List.take_append_drop (p.toNat - f.toNat) (l.drop f.toNat)
        rw [List.drop_drop, show f.toNat + (p.toNat - f.toNat) = p.toNat by omega] at this
        exact this
      · rcases List.mem_cons.1 hx with rfl | hx
        · simp [cut]; omega
        · exact ih2 x hx

theorem splitR_facts {l : List UInt8} {ps : List Int} (h : (splitR l ps).length ≠ 0) : (splitR l ps).flatten = l ∧ (∀ x ∈ splitR l ps, 0 < x.length) ∧ (splitR l ps).length = ps.length + 1 ∧ l.length ≤ 20 := by
  cases hw : wordOk l
  · exact absurd (by simp [splitR, hw]) h
  · obtain ⟨_, h1, h2⟩ := word_iff.1 hw
    cases hs : splitGo l 0 ps with
    | none => exact absurd (by simp [splitR, hs]) h
    | some r =>
      have e : splitR l ps = r := by simp [splitR, hw, hs]
      rw [e]
      have a := split_join ps 0 r (by omega) (by omega) hs
      have b := split_len ps 0 r (by omega) (by omega) hs
      exact ⟨by simpa using a.1, a.2, b.1, h2⟩

theorem flatten_take_len (r : List (List UInt8)) (i : Nat) : (r.take i).flatten.length ≤ r.flatten.length := by
  have e : r = r.take i ++ r.drop i := (List.take_append_drop i r).symm
  conv => rhs; rw [e]
  rw [List.flatten_append, List.length_append]
  omega

set_option maxHeartbeats 1000000
attribute [local irreducible] W WL QV ST RV Th Bl fnPost Cs Bx pp ea Calls
set_option maxRecDepth 100000

theorem w_FnSplitWord (A : Option Addr) (c : Nat) (zs : List Int) (w : World) (h : Code w A c zs) :
    Calls Try.prog 5 #[.slice A zs.length c] w fun e w' => e = .returned (.bool true) ∧ Gr w w' := by
  refine calls_W Try.func5 rfl Try.ntmps5 rfl ?_
  repeat' (first | refine wl_nil ?_ | refine Th_normal ?_ | refine W_seq ?_ | refine W_region ?_ | refine W_condT rfl ?_ | refine W_condF rfl ?_ | refine W_block ?_ | refine W_ret ?_ | refine W_exit ?_ | refine W_skip ?_ | refine Th_ret ?_ | refine Th_exit ?_ | refine Bl_normal ?_ | refine Bl_ret ?_ | refine Bl_exit rfl ?_ | refine Bl_pass rfl ?_ | refine W_condB rfl (fun tt => ?_) (fun tt => ?_) | (show fnPost _ _ _ _ _ _ _; refine fret (rv1 rfl rfl) ?_) | (show WL _ _ _ _ _ _ _; first | (refine wl_do (op := .call { callee := .value (.func 24), args := _, argTypes := _ }) rfl rfl ?_; refine st_call Try.func24 rfl rfl rfl (spec_DrawSplitWord _ _ _ _ (h.gr (by repeat (first | exact Gr.refl _ | assumption | (apply Gr.trans; rotate_left; assumption) | (apply Gr.st; rotate_left; assumption; focus omega))))) ?_; rintro e w1 ⟨l, C, m, ps, rfl, g1, hT, q1, q2⟩; refine ⟨_, rfl, ?_⟩; have z1 := g1.size; have hbl := splitR_len l ps; by_cases h0 : (splitR l ps).length = 0) | (refine wl_do (op := .call { callee := .value (.func 20), args := _, argTypes := _ }) rfl rfl ?_; refine st_call Try.func20 rfl rfl rfl (impl_SplitWord _ _ l ps _ (hT.gr (by repeat (first | exact Gr.refl _ | assumption | (apply Gr.trans; rotate_left; assumption) | (apply Gr.st; rotate_left; assumption; focus omega)))) (by omega) (by omega)) ?_; rintro e w1 ⟨B1, d1, rfl, g1, hO1⟩; refine ⟨_, rfl, ?_⟩; have z1 := g1.size; have hS1 : Sl _ B1 1 encS (splitR l ps) := hO1.sl (fun _ => rfl); clear hO1) | (refine wl_do (op := .call { callee := .value (.func 18), args := _, argTypes := _ }) rfl rfl ?_; refine st_call Try.func18 rfl rfl rfl (spec_SplitWord _ _ l ps _ (hT.gr (by repeat (first | exact Gr.refl _ | assumption | (apply Gr.trans; rotate_left; assumption) | (apply Gr.st; rotate_left; assumption; focus omega)))) (by omega) (by omega)) ?_; rintro e w1 ⟨B2, d2, rfl, g1, hO2⟩; refine ⟨_, rfl, ?_⟩; have z1 := g1.size; have hS2 : Sl _ B2 1 encS (splitR l ps) := hO2.sl (fun _ => rfl); clear hO2) | (refine wl_do (op := .call { callee := .value (.func 25), args := _, argTypes := _ }) rfl rfl ?_; refine st_callV Try.func25 rfl rfl rfl (laws_equalTextsT _ _ _ _ (splitR l ps) _ (hS1.gr (by repeat (first | exact Gr.refl _ | assumption | (apply Gr.trans; rotate_left; assumption) | (apply Gr.st; rotate_left; assumption; focus omega)))) (hS2.gr (by repeat (first | exact Gr.refl _ | assumption | (apply Gr.trans; rotate_left; assumption) | (apply Gr.st; rotate_left; assumption; focus omega)))) (by omega)) (fun w1 g1 z1 => ?_)) | refine wl_val rfl rfl (q_pv rfl) ?_ | refine wl_skip rfl rfl ?_ | refine wl_val rfl rfl (q_add rfl rfl (by omega)) ?_ | refine wl_val rfl rfl (q_len rfl) ?_ | refine wl_val rfl rfl (q_lenS rfl) ?_ | refine wl_val rfl rfl (q_indexAddr _ rfl rfl rfl (by omega) (by first | assumption | rfl)) ?_ | refine wl_val rfl rfl (q_indexAddrI rfl rfl (by omega) (by omega) (by first | assumption | rfl)) ?_ | refine wl_val rfl rfl (q_loadA rfl (by repeat (first | assumption | exact Bx.cs (by assumption) | (apply Cs.gr; assumption) | (apply Cs.mv; assumption; focus (first | assumption | ((try dsimp only); omega))))) (by rfl)) ?_ | refine wl_val rfl rfl (q_load1 rfl (by repeat (first | assumption | exact Bx.cs (by assumption) | (apply Cs.gr; assumption) | (apply Cs.mv; assumption; focus (first | assumption | ((try dsimp only); omega))))) (by rfl)) ?_ | refine wl_val rfl rfl (q_loadS rfl (by repeat (first | assumption | exact Bx.cs (by assumption) | (apply Cs.gr; assumption) | (apply Cs.mv; assumption; focus (first | assumption | ((try dsimp only); omega))))) (by rfl) (by rfl)) ?_ | refine wl_val rfl rfl (q_lss1 rfl rfl (by omega)) ?_ | refine wl_val rfl rfl (q_lss0 rfl rfl (by omega)) ?_ | refine wl_lss rfl rfl rfl rfl (fun tt => ?_) (fun tt => ?_) | refine wl_val rfl rfl (q_gtr1 rfl rfl (by omega)) ?_ | refine wl_val rfl rfl (q_gtr0 rfl rfl (by omega)) ?_ | refine wl_gtr rfl rfl rfl rfl (fun tt => ?_) (fun tt => ?_) | refine wl_val rfl rfl (q_eql1 rfl rfl (by omega)) ?_ | refine wl_val rfl rfl (q_eql0 rfl rfl (by omega)) ?_ | refine wl_eql rfl rfl rfl rfl (fun tt => ?_) (fun tt => ?_) | refine wl_val rfl rfl (q_eqlB rfl rfl) ?_ | refine wl_val rfl rfl (q_addw rfl rfl) ?_))
  all_goals try exact ⟨rfl, (by repeat (first | exact Gr.refl _ | assumption | (apply Gr.trans; rotate_left; assumption) | (apply Gr.st; rotate_left; assumption; focus omega)))⟩
  obtain ⟨hj, hne, hln, hl20⟩ := splitR_facts h0
  refine W_loop (fun i : Nat => [(7, .int .i64 (i : Int)), (6, str ((splitR l ps).take i).flatten), (5, .slice B1 (splitR l ps).length d1), (3, str l), (4, .slice C ps.length m)]) (fun i w' => Gr w w' ∧ Sl w' B1 1 encS (splitR l ps) ∧ i ≤ (splitR l ps).length) (fun i => (splitR l ps).length - i) 0 ⟨rfl, rfl, rfl, rfl, rfl, trivial⟩ ⟨(by repeat (first | exact Gr.refl _ | assumption | (apply Gr.trans; rotate_left; assumption) | (apply Gr.st; rotate_left; assumption; focus omega))), hS1.gr (by repeat (first | exact Gr.refl _ | assumption | (apply Gr.trans; rotate_left; assumption) | (apply Gr.st; rotate_left; assumption; focus omega))), by omega⟩ ?_
  clear hS1 hS2 hT
  rintro i w' ⟨g, hS1, hi⟩
  have hfl := flatten_take_len (splitR l ps) i
  rw [hj] at hfl
  by_cases hlt : i < (splitR l ps).length
  · obtain ⟨x, hx⟩ : ∃ x, (splitR l ps)[i]? = some x := ⟨_, List.getElem?_eq_getElem hlt⟩
    have hs1 := hS1.nn (by omega)
    have cx := hS1.el i x hx
    have hxl := hne x (List.mem_of_getElem? hx)
    have hfl2 := flatten_take_len (splitR l ps) (i + 1)
    have hst : ((splitR l ps).take (i + 1)).flatten = ((splitR l ps).take i).flatten ++ x := by rw [List.take_add_one, hx]; simp
    rw [hj, hst, List.length_append] at hfl2
    repeat' (first | refine wl_nil ?_ | refine Th_normal ?_ | refine W_seq ?_ | refine W_region ?_ | refine W_condT rfl ?_ | refine W_condF rfl ?_ | refine W_block ?_ | refine W_ret ?_ | refine W_exit ?_ | refine W_skip ?_ | refine Th_ret ?_ | refine Th_exit ?_ | refine Bl_normal ?_ | refine Bl_ret ?_ | refine Bl_exit rfl ?_ | refine Bl_pass rfl ?_ | refine W_condB rfl (fun tt => ?_) (fun tt => ?_) | (show fnPost _ _ _ _ _ _ _; refine fret (rv1 rfl rfl) ?_) | (show WL _ _ _ _ _ _ _; first | (refine wl_val rfl rfl (q_lenT rfl) ?_) | (refine wl_val rfl rfl (q_catT rfl rfl (by omega)) ?_) | refine wl_val rfl rfl (q_pv rfl) ?_ | refine wl_skip rfl rfl ?_ | refine wl_val rfl rfl (q_add rfl rfl (by omega)) ?_ | refine wl_val rfl rfl (q_len rfl) ?_ | refine wl_val rfl rfl (q_lenS rfl) ?_ | refine wl_val rfl rfl (q_indexAddr _ rfl rfl rfl (by omega) (by first | assumption | rfl)) ?_ | refine wl_val rfl rfl (q_indexAddrI rfl rfl (by omega) (by omega) (by first | assumption | rfl)) ?_ | refine wl_val rfl rfl (q_loadA rfl (by repeat (first | assumption | exact Bx.cs (by assumption) | (apply Cs.gr; assumption) | (apply Cs.mv; assumption; focus (first | assumption | ((try dsimp only); omega))))) (by rfl)) ?_ | refine wl_val rfl rfl (q_load1 rfl (by repeat (first | assumption | exact Bx.cs (by assumption) | (apply Cs.gr; assumption) | (apply Cs.mv; assumption; focus (first | assumption | ((try dsimp only); omega))))) (by rfl)) ?_ | refine wl_val rfl rfl (q_loadS rfl (by repeat (first | assumption | exact Bx.cs (by assumption) | (apply Cs.gr; assumption) | (apply Cs.mv; assumption; focus (first | assumption | ((try dsimp only); omega))))) (by rfl) (by rfl)) ?_ | refine wl_val rfl rfl (q_lss1 rfl rfl (by omega)) ?_ | refine wl_val rfl rfl (q_lss0 rfl rfl (by omega)) ?_ | refine wl_lss rfl rfl rfl rfl (fun tt => ?_) (fun tt => ?_) | refine wl_val rfl rfl (q_gtr1 rfl rfl (by omega)) ?_ | refine wl_val rfl rfl (q_gtr0 rfl rfl (by omega)) ?_ | refine wl_gtr rfl rfl rfl rfl (fun tt => ?_) (fun tt => ?_) | refine wl_val rfl rfl (q_eql1 rfl rfl (by omega)) ?_ | refine wl_val rfl rfl (q_eql0 rfl rfl (by omega)) ?_ | refine wl_eql rfl rfl rfl rfl (fun tt => ?_) (fun tt => ?_) | refine wl_val rfl rfl (q_eqlB rfl rfl) ?_ | refine wl_val rfl rfl (q_addw rfl rfl) ?_))
    exact ⟨i + 1, by omega, ⟨(by repeat (first | exact Gr.refl _ | assumption | (apply Gr.trans; rotate_left; assumption) | (apply Gr.st; rotate_left; assumption; focus omega))), hS1.gr (by repeat (first | exact Gr.refl _ | assumption | (apply Gr.trans; rotate_left; assumption) | (apply Gr.st; rotate_left; assumption; focus omega))), by omega⟩, ⟨rfl, by rw [hst]; rfl, rfl, rfl, rfl, trivial⟩⟩
  · have hall : ((splitR l ps).take i).flatten = l := by rw [List.take_of_length_le (by omega), hj]
    rw [hall]
    repeat' (first | refine wl_nil ?_ | refine Th_normal ?_ | refine W_seq ?_ | refine W_region ?_ | refine W_condT rfl ?_ | refine W_condF rfl ?_ | refine W_block ?_ | refine W_ret ?_ | refine W_exit ?_ | refine W_skip ?_ | refine Th_ret ?_ | refine Th_exit ?_ | refine Bl_normal ?_ | refine Bl_ret ?_ | refine Bl_exit rfl ?_ | refine Bl_pass rfl ?_ | refine W_condB rfl (fun tt => ?_) (fun tt => ?_) | (show fnPost _ _ _ _ _ _ _; refine fret (rv1 rfl rfl) ?_) | (show WL _ _ _ _ _ _ _; first | (refine wl_val rfl rfl (q_eqlT1 rfl rfl rfl) ?_) | refine wl_val rfl rfl (q_pv rfl) ?_ | refine wl_skip rfl rfl ?_ | refine wl_val rfl rfl (q_add rfl rfl (by omega)) ?_ | refine wl_val rfl rfl (q_len rfl) ?_ | refine wl_val rfl rfl (q_lenS rfl) ?_ | refine wl_val rfl rfl (q_indexAddr _ rfl rfl rfl (by omega) (by first | assumption | rfl)) ?_ | refine wl_val rfl rfl (q_indexAddrI rfl rfl (by omega) (by omega) (by first | assumption | rfl)) ?_ | refine wl_val rfl rfl (q_loadA rfl (by repeat (first | assumption | exact Bx.cs (by assumption) | (apply Cs.gr; assumption) | (apply Cs.mv; assumption; focus (first | assumption | ((try dsimp only); omega))))) (by rfl)) ?_ | refine wl_val rfl rfl (q_load1 rfl (by repeat (first | assumption | exact Bx.cs (by assumption) | (apply Cs.gr; assumption) | (apply Cs.mv; assumption; focus (first | assumption | ((try dsimp only); omega))))) (by rfl)) ?_ | refine wl_val rfl rfl (q_loadS rfl (by repeat (first | assumption | exact Bx.cs (by assumption) | (apply Cs.gr; assumption) | (apply Cs.mv; assumption; focus (first | assumption | ((try dsimp only); omega))))) (by rfl) (by rfl)) ?_ | refine wl_val rfl rfl (q_lss1 rfl rfl (by omega)) ?_ | refine wl_val rfl rfl (q_lss0 rfl rfl (by omega)) ?_ | refine wl_lss rfl rfl rfl rfl (fun tt => ?_) (fun tt => ?_) | refine wl_val rfl rfl (q_gtr1 rfl rfl (by omega)) ?_ | refine wl_val rfl rfl (q_gtr0 rfl rfl (by omega)) ?_ | refine wl_gtr rfl rfl rfl rfl (fun tt => ?_) (fun tt => ?_) | refine wl_val rfl rfl (q_eql1 rfl rfl (by omega)) ?_ | refine wl_val rfl rfl (q_eql0 rfl rfl (by omega)) ?_ | refine wl_eql rfl rfl rfl rfl (fun tt => ?_) (fun tt => ?_) | refine wl_val rfl rfl (q_eqlB rfl rfl) ?_ | refine wl_val rfl rfl (q_addw rfl rfl) ?_))
    all_goals first | exact ⟨rfl, (by repeat (first | exact Gr.refl _ | assumption | (apply Gr.trans; rotate_left; assumption) | (apply Gr.st; rotate_left; assumption; focus omega)))⟩ | exact ⟨ret_bool (by simp), (by repeat (first | exact Gr.refl _ | assumption | (apply Gr.trans; rotate_left; assumption) | (apply Gr.st; rotate_left; assumption; focus omega)))⟩ | skip

end Go.Proofs.Ytncgflkkmccadaa
