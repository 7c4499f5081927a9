/- The exact laws on values between letters and on places of division: their walks. -/
import Derived.Test.YtdenlafdbfbkoaaHyq
import Derived.Test.YtdenlafdbfbkoaaExactT
namespace Go.Proofs.Ytdenlafdbfbkoaa
open Go.RowKit
set_option linter.unusedVariables false
set_option linter.unusedSimpArgs false

def szGo : Int → List (List UInt8) → Int
  | k, [] => k
  | k, s :: r => if k - (s.length : Int) < 0 then -1 else szGo (k - (s.length : Int)) r
def szS (ls : List (List UInt8)) (k : Int) : Int := if k - (ls.length : Int) < 0 then -1 else szGo (k - (ls.length : Int)) ls

theorem szGo_le : ∀ (ls : List (List UInt8)) (k : Int), 0 ≤ szGo k ls → szGo k ls ≤ k ∧ ∀ s ∈ ls, (s.length : Int) ≤ k
  | [], k, h => ⟨Int.le_refl _, fun s hs => by cases hs⟩
  | s :: r, k, h => by
    rw [szGo] at h ⊢
    split at h
    · omega
    · rename_i hk
      rw [if_neg hk]
      obtain ⟨h1, h2⟩ := szGo_le r _ h
      refine ⟨by omega, fun t ht => ?_⟩
      rcases List.mem_cons.1 ht with rfl | ht
      · omega
      · have := h2 t ht; omega

theorem szGo_top : ∀ (ls : List (List UInt8)) (k : Int), 0 ≤ k → szGo k ls ≤ k
  | [], k, h => Int.le_refl _
  | s :: r, k, h => by
    rw [szGo]
    split
    · omega
    · have := szGo_top r (k - (s.length : Int)) (by omega); omega

theorem szS_ok {ls : List (List UInt8)} (h : 0 ≤ szS ls 1048576) : szS ls 1048576 ≤ 1048576 ∧ ls.length ≤ 1048576 ∧ ∀ s ∈ ls, s.length ≤ 1048576 := by
  unfold szS at h ⊢
  split at h
  · omega
  · rename_i hk
    rw [if_neg hk]
    obtain ⟨h1, h2⟩ := szGo_le ls _ h
    exact ⟨by omega, by omega, fun s hs => by have := h2 s hs; omega⟩

theorem szGo_step {ls : List (List UInt8)} {i : Nat} {s : List UInt8} {k : Int} (h : ls[i]? = some s) : szGo k (ls.drop i) = if k - (s.length : Int) < 0 then -1 else szGo (k - (s.length : Int)) (ls.drop (i + 1)) := by
  have hl := (List.getElem?_eq_some_iff.1 h).1
  have e : ls.drop i = s :: ls.drop (i + 1) := by
    rw [List.drop_eq_getElem_cons hl]
    congr 1
    exact (List.getElem?_eq_some_iff.1 h).2
  rw [e, szGo]

set_option maxHeartbeats 1000000
attribute [local irreducible] W WL QV ST RV Th Bl fnPost Cs Bx pp ea Calls
set_option maxRecDepth 100000

theorem laws_szStringS (A : Option Addr) (c : Nat) (k : Int) (ls : List (List UInt8)) (w : World) (hS : Sl w A 1 encS ls) (hm : ∀ s ∈ ls, s.length ≤ 9223372036854775807) (hl : ls.length ≤ 9223372036854775807) (h0 : 0 ≤ k) (h1 : k ≤ 1048576) :
    Calls Try.prog 25 #[.slice A ls.length c, .int .i64 k] w fun e w' => e = .returned (.int .i64 (szS ls k)) ∧ Gr w w' := by
  by_cases hk : k - (ls.length : Int) < 0
  · rw [szS, if_pos hk]
    refine calls_W Try.func25 rfl Try.ntmps25 rfl ?_
    repeat' (first | refine wl_nil ?_ | refine Th_normal ?_ | refine W_seq ?_ | refine W_region ?_ | refine W_condT rfl ?_ | refine W_condF rfl ?_ | refine W_block ?_ | refine W_ret ?_ | refine W_exit ?_ | refine W_skip ?_ | refine Th_ret ?_ | refine Th_exit ?_ | refine Bl_normal ?_ | refine Bl_ret ?_ | refine Bl_exit rfl ?_ | refine Bl_pass rfl ?_ | refine W_condB rfl (fun tt => ?_) (fun tt => ?_) | (show fnPost _ _ _ _ _ _ _; refine fret (rv1 rfl rfl) ?_) | (show WL _ _ _ _ _ _ _; first | refine wl_val rfl rfl (q_pv rfl) ?_ | refine wl_val rfl rfl (q_add rfl rfl (by omega)) ?_ | refine wl_val rfl rfl (q_sub rfl rfl (by omega)) ?_ | refine wl_val rfl rfl (q_len rfl) ?_ | refine wl_val rfl rfl (q_lenS rfl) ?_ | refine wl_val rfl rfl (q_indexAddr _ rfl rfl rfl (by omega) (by first | assumption | rfl)) ?_ | refine wl_val rfl rfl (q_indexAddrI rfl rfl (by omega) (by omega) (by first | assumption | rfl)) ?_ | refine wl_val rfl rfl (q_loadA rfl Cs.A (by rfl)) ?_ | refine wl_val rfl rfl (q_load1 rfl Cs.A (by rfl)) ?_ | refine wl_val rfl rfl (q_loadS rfl Cs.A (by rfl) (by rfl)) ?_ | refine wl_val rfl rfl (q_lss1 rfl rfl (by omega)) ?_ | refine wl_val rfl rfl (q_lss0 rfl rfl (by omega)) ?_ | refine wl_lss rfl rfl rfl rfl (fun tt => ?_) (fun tt => ?_) | refine wl_val rfl rfl (q_addw rfl rfl) ?_ | refine wl_val rfl rfl (q_subw rfl rfl) ?_))
    exact ⟨rfl, Gr.A⟩
  · rw [szS, if_neg hk]
    refine calls_W Try.func25 rfl Try.ntmps25 rfl ?_
    repeat' (first | refine wl_nil ?_ | refine Th_normal ?_ | refine W_seq ?_ | refine W_region ?_ | refine W_condT rfl ?_ | refine W_condF rfl ?_ | refine W_block ?_ | refine W_ret ?_ | refine W_exit ?_ | refine W_skip ?_ | refine Th_ret ?_ | refine Th_exit ?_ | refine Bl_normal ?_ | refine Bl_ret ?_ | refine Bl_exit rfl ?_ | refine Bl_pass rfl ?_ | refine W_condB rfl (fun tt => ?_) (fun tt => ?_) | (show fnPost _ _ _ _ _ _ _; refine fret (rv1 rfl rfl) ?_) | (show WL _ _ _ _ _ _ _; first | refine wl_val rfl rfl (q_pv rfl) ?_ | refine wl_val rfl rfl (q_add rfl rfl (by omega)) ?_ | refine wl_val rfl rfl (q_sub rfl rfl (by omega)) ?_ | refine wl_val rfl rfl (q_len rfl) ?_ | refine wl_val rfl rfl (q_lenS rfl) ?_ | refine wl_val rfl rfl (q_indexAddr _ rfl rfl rfl (by omega) (by first | assumption | rfl)) ?_ | refine wl_val rfl rfl (q_indexAddrI rfl rfl (by omega) (by omega) (by first | assumption | rfl)) ?_ | refine wl_val rfl rfl (q_loadA rfl Cs.A (by rfl)) ?_ | refine wl_val rfl rfl (q_load1 rfl Cs.A (by rfl)) ?_ | refine wl_val rfl rfl (q_loadS rfl Cs.A (by rfl) (by rfl)) ?_ | refine wl_val rfl rfl (q_lss1 rfl rfl (by omega)) ?_ | refine wl_val rfl rfl (q_lss0 rfl rfl (by omega)) ?_ | refine wl_lss rfl rfl rfl rfl (fun tt => ?_) (fun tt => ?_) | refine wl_val rfl rfl (q_addw rfl rfl) ?_ | refine wl_val rfl rfl (q_subw rfl rfl) ?_))
    refine W_loop2 (fun (i : Nat) (z : Int) => [(5, .int .i64 (i : Int)), (0, .slice A ls.length c), (1, .int .i64 z)]) (fun i z w' => Gr w w' ∧ i ≤ ls.length ∧ 0 ≤ z ∧ z ≤ 1048576 ∧ szGo z (ls.drop i) = szGo (k - (ls.length : Int)) ls) (fun i _ => ls.length - i) 0 _ ⟨rfl, rfl, rfl, trivial⟩ ⟨Gr.A, by omega, by omega, by omega, rfl⟩ ?_
    rintro i z w' ⟨g, hi, z0, z1, hR⟩
    by_cases hlt : i < ls.length
    · obtain ⟨u, hu⟩ : ∃ u, ls[i]? = some u := ⟨_, List.getElem?_eq_getElem hlt⟩
      have hs := hS.nn (by omega)
      have cx := (hS.el i u hu).gr g
      have hmu := hm u (List.mem_of_getElem? hu)
      rw [szGo_step hu] at hR
      by_cases hz : z - (u.length : Int) < 0
      · rw [if_pos hz] at hR
        rw [← hR]
        repeat' (first | refine wl_nil ?_ | refine Th_normal ?_ | refine W_seq ?_ | refine W_region ?_ | refine W_condT rfl ?_ | refine W_condF rfl ?_ | refine W_block ?_ | refine W_ret ?_ | refine W_exit ?_ | refine W_skip ?_ | refine Th_ret ?_ | refine Th_exit ?_ | refine Bl_normal ?_ | refine Bl_ret ?_ | refine Bl_exit rfl ?_ | refine Bl_pass rfl ?_ | refine W_condB rfl (fun tt => ?_) (fun tt => ?_) | (show fnPost _ _ _ _ _ _ _; refine fret (rv1 rfl rfl) ?_) | (show WL _ _ _ _ _ _ _; first | (refine wl_val rfl rfl (q_lenT rfl) ?_) | refine wl_val rfl rfl (q_pv rfl) ?_ | refine wl_val rfl rfl (q_add rfl rfl (by omega)) ?_ | refine wl_val rfl rfl (q_sub rfl rfl (by omega)) ?_ | refine wl_val rfl rfl (q_len rfl) ?_ | refine wl_val rfl rfl (q_lenS rfl) ?_ | refine wl_val rfl rfl (q_indexAddr _ rfl rfl rfl (by omega) (by first | assumption | rfl)) ?_ | refine wl_val rfl rfl (q_indexAddrI rfl rfl (by omega) (by omega) (by first | assumption | rfl)) ?_ | refine wl_val rfl rfl (q_loadA rfl Cs.A (by rfl)) ?_ | refine wl_val rfl rfl (q_load1 rfl Cs.A (by rfl)) ?_ | refine wl_val rfl rfl (q_loadS rfl Cs.A (by rfl) (by rfl)) ?_ | refine wl_val rfl rfl (q_lss1 rfl rfl (by omega)) ?_ | refine wl_val rfl rfl (q_lss0 rfl rfl (by omega)) ?_ | refine wl_lss rfl rfl rfl rfl (fun tt => ?_) (fun tt => ?_) | refine wl_val rfl rfl (q_addw rfl rfl) ?_ | refine wl_val rfl rfl (q_subw rfl rfl) ?_))
        exact ⟨rfl, Gr.A⟩
      · rw [if_neg hz] at hR
        repeat' (first | refine wl_nil ?_ | refine Th_normal ?_ | refine W_seq ?_ | refine W_region ?_ | refine W_condT rfl ?_ | refine W_condF rfl ?_ | refine W_block ?_ | refine W_ret ?_ | refine W_exit ?_ | refine W_skip ?_ | refine Th_ret ?_ | refine Th_exit ?_ | refine Bl_normal ?_ | refine Bl_ret ?_ | refine Bl_exit rfl ?_ | refine Bl_pass rfl ?_ | refine W_condB rfl (fun tt => ?_) (fun tt => ?_) | (show fnPost _ _ _ _ _ _ _; refine fret (rv1 rfl rfl) ?_) | (show WL _ _ _ _ _ _ _; first | (refine wl_val rfl rfl (q_lenT rfl) ?_) | refine wl_val rfl rfl (q_pv rfl) ?_ | refine wl_val rfl rfl (q_add rfl rfl (by omega)) ?_ | refine wl_val rfl rfl (q_sub rfl rfl (by omega)) ?_ | refine wl_val rfl rfl (q_len rfl) ?_ | refine wl_val rfl rfl (q_lenS rfl) ?_ | refine wl_val rfl rfl (q_indexAddr _ rfl rfl rfl (by omega) (by first | assumption | rfl)) ?_ | refine wl_val rfl rfl (q_indexAddrI rfl rfl (by omega) (by omega) (by first | assumption | rfl)) ?_ | refine wl_val rfl rfl (q_loadA rfl Cs.A (by rfl)) ?_ | refine wl_val rfl rfl (q_load1 rfl Cs.A (by rfl)) ?_ | refine wl_val rfl rfl (q_loadS rfl Cs.A (by rfl) (by rfl)) ?_ | refine wl_val rfl rfl (q_lss1 rfl rfl (by omega)) ?_ | refine wl_val rfl rfl (q_lss0 rfl rfl (by omega)) ?_ | refine wl_lss rfl rfl rfl rfl (fun tt => ?_) (fun tt => ?_) | refine wl_val rfl rfl (q_addw rfl rfl) ?_ | refine wl_val rfl rfl (q_subw rfl rfl) ?_))
        exact ⟨i + 1, _, by omega, ⟨Gr.A, by omega, by omega, by omega, hR⟩, ⟨rfl, rfl, rfl, trivial⟩⟩
    · rw [List.drop_eq_nil_of_le (by omega), szGo] at hR
      rw [← hR]
      repeat' (first | refine wl_nil ?_ | refine Th_normal ?_ | refine W_seq ?_ | refine W_region ?_ | refine W_condT rfl ?_ | refine W_condF rfl ?_ | refine W_block ?_ | refine W_ret ?_ | refine W_exit ?_ | refine W_skip ?_ | refine Th_ret ?_ | refine Th_exit ?_ | refine Bl_normal ?_ | refine Bl_ret ?_ | refine Bl_exit rfl ?_ | refine Bl_pass rfl ?_ | refine W_condB rfl (fun tt => ?_) (fun tt => ?_) | (show fnPost _ _ _ _ _ _ _; refine fret (rv1 rfl rfl) ?_) | (show WL _ _ _ _ _ _ _; first | refine wl_val rfl rfl (q_pv rfl) ?_ | refine wl_val rfl rfl (q_add rfl rfl (by omega)) ?_ | refine wl_val rfl rfl (q_sub rfl rfl (by omega)) ?_ | refine wl_val rfl rfl (q_len rfl) ?_ | refine wl_val rfl rfl (q_lenS rfl) ?_ | refine wl_val rfl rfl (q_indexAddr _ rfl rfl rfl (by omega) (by first | assumption | rfl)) ?_ | refine wl_val rfl rfl (q_indexAddrI rfl rfl (by omega) (by omega) (by first | assumption | rfl)) ?_ | refine wl_val rfl rfl (q_loadA rfl Cs.A (by rfl)) ?_ | refine wl_val rfl rfl (q_load1 rfl Cs.A (by rfl)) ?_ | refine wl_val rfl rfl (q_loadS rfl Cs.A (by rfl) (by rfl)) ?_ | refine wl_val rfl rfl (q_lss1 rfl rfl (by omega)) ?_ | refine wl_val rfl rfl (q_lss0 rfl rfl (by omega)) ?_ | refine wl_lss rfl rfl rfl rfl (fun tt => ?_) (fun tt => ?_) | refine wl_val rfl rfl (q_addw rfl rfl) ?_ | refine wl_val rfl rfl (q_subw rfl rfl) ?_))
      exact ⟨rfl, Gr.A⟩

theorem laws_toStringS (A : Option Addr) (c : Nat) (xs : List (List UInt8)) (w : World) (hS : Sl w A 1 encS xs) (hl : xs.length ≤ 1048576) :
    Calls Try.prog 27 #[.slice A xs.length c] w fun e w' => ∃ b, e = .returned (.slice (some ⟨b, 0, none⟩) xs.length xs.length) ∧ Gr w w' ∧ w.heap.size ≤ b ∧ Bx w' b (xs.flatMap encS) := by
  refine calls_W Try.func27 rfl Try.ntmps27 rfl ?_
  repeat' (first | refine wl_nil ?_ | refine Th_normal ?_ | refine W_seq ?_ | refine W_region ?_ | refine W_condT rfl ?_ | refine W_condF rfl ?_ | refine W_block ?_ | refine W_ret ?_ | refine W_exit ?_ | refine W_skip ?_ | refine Th_ret ?_ | refine Th_exit ?_ | refine Bl_normal ?_ | refine Bl_ret ?_ | refine Bl_exit rfl ?_ | refine Bl_pass rfl ?_ | refine W_condB rfl (fun tt => ?_) (fun tt => ?_) | (show fnPost _ _ _ _ _ _ _; refine fret (rv1 rfl rfl) ?_) | (show WL _ _ _ _ _ _ _; first | refine wl_val rfl rfl (q_pv rfl) ?_ | refine wl_val rfl rfl (q_add rfl rfl (by omega)) ?_ | refine wl_val rfl rfl (q_len rfl) ?_ | refine wl_val rfl rfl (q_lenS rfl) ?_ | refine wl_val rfl rfl (q_indexAddr _ rfl rfl rfl (by omega) (by first | assumption | rfl)) ?_ | refine wl_val rfl rfl (q_indexAddrI rfl rfl (by omega) (by omega) (by first | assumption | rfl)) ?_ | refine wl_val rfl rfl (q_loadA rfl Cs.A (by rfl)) ?_ | refine wl_val rfl rfl (q_load1 rfl Cs.A (by rfl)) ?_ | refine wl_val rfl rfl (q_loadS rfl Cs.A (by rfl) (by rfl)) ?_ | (refine wl_do rfl rfl ?_; first | refine st_store rfl rfl rfl rfl rfl rfl Bx.A (by first | rfl | (rw [Nat.ble_eq]; simp; omega)) (fun w1 g1 z1 f1 => ?_) | refine st_makeSlice rfl rfl rfl (by omega) (fun b w1 e1 g1 z1 f1 => ?_)) | refine wl_val rfl rfl (q_lss1 rfl rfl (by omega)) ?_ | refine wl_val rfl rfl (q_lss0 rfl rfl (by omega)) ?_ | refine wl_lss rfl rfl rfl rfl (fun tt => ?_) (fun tt => ?_) | refine wl_val rfl rfl (q_addw rfl rfl) ?_))
  have hbz : w.heap.size ≤ b := by omega
  refine W_loop (fun i : Nat => [(4, .int .i64 (i : Int)), (0, .slice A xs.length c), (3, .slice (some ⟨b, 0, none⟩) xs.length xs.length)]) (fun i w' => Gr w w' ∧ i ≤ xs.length ∧ ∃ cs, Bx w' b cs ∧ cs.length = xs.length * 1 ∧ cs.take (i * 1) = (xs.take i).flatMap encS) (fun i => xs.length - i) 0 ⟨rfl, rfl, rfl, trivial⟩ ⟨Gr.A, by omega, _, Bx.A, by simp; exact Nat.mul_one _, by simp⟩ ?_
  rintro i w' ⟨g, hi, cs, hb, hcl, hct⟩
  by_cases hlt : i < xs.length
  · obtain ⟨x, hx⟩ : ∃ x, xs[i]? = some x := ⟨_, List.getElem?_eq_getElem hlt⟩
    have hs := hS.nn (by omega)
    have cx := (hS.el i x hx).gr g
    have hz := hb.lt
    repeat' (first | refine wl_nil ?_ | refine Th_normal ?_ | refine W_seq ?_ | refine W_region ?_ | refine W_condT rfl ?_ | refine W_condF rfl ?_ | refine W_block ?_ | refine W_ret ?_ | refine W_exit ?_ | refine W_skip ?_ | refine Th_ret ?_ | refine Th_exit ?_ | refine Bl_normal ?_ | refine Bl_ret ?_ | refine Bl_exit rfl ?_ | refine Bl_pass rfl ?_ | refine W_condB rfl (fun tt => ?_) (fun tt => ?_) | (show fnPost _ _ _ _ _ _ _; refine fret (rv1 rfl rfl) ?_) | (show WL _ _ _ _ _ _ _; first | (refine wl_do rfl rfl ?_; refine st_store rfl rfl (ea_own _ _) rfl rfl rfl Bx.A (by rw [Nat.ble_eq]; simp; omega) (fun w1 g1 z1 f1 => ?_)) | refine wl_val rfl rfl (q_pv rfl) ?_ | refine wl_val rfl rfl (q_add rfl rfl (by omega)) ?_ | refine wl_val rfl rfl (q_len rfl) ?_ | refine wl_val rfl rfl (q_lenS rfl) ?_ | refine wl_val rfl rfl (q_indexAddr _ rfl rfl rfl (by omega) (by first | assumption | rfl)) ?_ | refine wl_val rfl rfl (q_indexAddrI rfl rfl (by omega) (by omega) (by first | assumption | rfl)) ?_ | refine wl_val rfl rfl (q_loadA rfl Cs.A (by rfl)) ?_ | refine wl_val rfl rfl (q_load1 rfl Cs.A (by rfl)) ?_ | refine wl_val rfl rfl (q_loadS rfl Cs.A (by rfl) (by rfl)) ?_ | (refine wl_do rfl rfl ?_; first | refine st_store rfl rfl rfl rfl rfl rfl Bx.A (by first | rfl | (rw [Nat.ble_eq]; simp; omega)) (fun w1 g1 z1 f1 => ?_) | refine st_makeSlice rfl rfl rfl (by omega) (fun b w1 e1 g1 z1 f1 => ?_)) | refine wl_val rfl rfl (q_lss1 rfl rfl (by omega)) ?_ | refine wl_val rfl rfl (q_lss0 rfl rfl (by omega)) ?_ | refine wl_lss rfl rfl rfl rfl (fun tt => ?_) (fun tt => ?_) | refine wl_val rfl rfl (q_addw rfl rfl) ?_))
    exact ⟨i + 1, by omega, ⟨Gr.A, by omega, _, Bx.A, by first | (rw [splice_len (by simp [encS]; omega)]; exact hcl) | (rw [Nat.add_zero, splice_len (by simp; omega)]; exact hcl), fill_step (enc := encS) (sz := 1) rfl hx (by omega) hct⟩, ⟨rfl, rfl, rfl, trivial⟩⟩
  · repeat' (first | refine wl_nil ?_ | refine Th_normal ?_ | refine W_seq ?_ | refine W_region ?_ | refine W_condT rfl ?_ | refine W_condF rfl ?_ | refine W_block ?_ | refine W_ret ?_ | refine W_exit ?_ | refine W_skip ?_ | refine Th_ret ?_ | refine Th_exit ?_ | refine Bl_normal ?_ | refine Bl_ret ?_ | refine Bl_exit rfl ?_ | refine Bl_pass rfl ?_ | refine W_condB rfl (fun tt => ?_) (fun tt => ?_) | (show fnPost _ _ _ _ _ _ _; refine fret (rv1 rfl rfl) ?_) | (show WL _ _ _ _ _ _ _; first | refine wl_val rfl rfl (q_pv rfl) ?_ | refine wl_val rfl rfl (q_add rfl rfl (by omega)) ?_ | refine wl_val rfl rfl (q_len rfl) ?_ | refine wl_val rfl rfl (q_lenS rfl) ?_ | refine wl_val rfl rfl (q_indexAddr _ rfl rfl rfl (by omega) (by first | assumption | rfl)) ?_ | refine wl_val rfl rfl (q_indexAddrI rfl rfl (by omega) (by omega) (by first | assumption | rfl)) ?_ | refine wl_val rfl rfl (q_loadA rfl Cs.A (by rfl)) ?_ | refine wl_val rfl rfl (q_load1 rfl Cs.A (by rfl)) ?_ | refine wl_val rfl rfl (q_loadS rfl Cs.A (by rfl) (by rfl)) ?_ | (refine wl_do rfl rfl ?_; first | refine st_store rfl rfl rfl rfl rfl rfl Bx.A (by first | rfl | (rw [Nat.ble_eq]; simp; omega)) (fun w1 g1 z1 f1 => ?_) | refine st_makeSlice rfl rfl rfl (by omega) (fun b w1 e1 g1 z1 f1 => ?_)) | refine wl_val rfl rfl (q_lss1 rfl rfl (by omega)) ?_ | refine wl_val rfl rfl (q_lss0 rfl rfl (by omega)) ?_ | refine wl_lss rfl rfl rfl rfl (fun tt => ?_) (fun tt => ?_) | refine wl_val rfl rfl (q_addw rfl rfl) ?_))
    rw [List.take_of_length_le (by omega), List.take_of_length_le (by omega)] at hct
    exact ⟨b, rfl, Gr.A, by omega, hct ▸ Bx.A⟩

end Go.Proofs.Ytdenlafdbfbkoaa
