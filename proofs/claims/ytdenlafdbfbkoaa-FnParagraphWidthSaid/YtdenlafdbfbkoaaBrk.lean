/- Contracts of the functions on breaks and lines. -/
import Derived.Test.YtdenlafdbfbkoaaItem
namespace Go.Proofs.Ytdenlafdbfbkoaa
open Go.RowKit
set_option linter.unusedVariables false
set_option linter.unusedSimpArgs false
set_option maxHeartbeats 1000000
attribute [local irreducible] W WL QV ST RV Th Bl fnPost Cs Bx pp ea Calls

theorem brk_nat (xs : List Item) (i : Nat) : brk xs (i : Int) = brkN xs i := by simp [brk]
theorem brk_at {xs : List Item} {i : Int} {x : Item} (h0 : 0 ≤ i) (hx : xs[i.toNat]? = some x) : brk xs i = if x.kd = 3 then decide (x.pen < 1000) else decide (x.kd = 2) && decide (0 < i) && (match xs[i.toNat - 1]? with | some y => decide (y.kd = 1) | none => false) := by
  simp only [brk, brkN, hx, h0, decide_true, Bool.true_and]
  rw [show decide (0 < i.toNat) = decide (0 < i) by rw [decide_eq_decide]; omega]
  rfl

theorem breaksOf_len (xs : List Item) : (breaksOf xs).length ≤ 60 := by
  unfold breaksOf
  split
  · rename_i h
    have := selTo_len (brkN xs) xs.length
    have := (vItems_iff.1 h).2.2.1
    omega
  · simp
theorem forcedOf_len (xs : List Item) : (forcedOf xs).length ≤ 60 := by
  unfold forcedOf
  split
  · rename_i h
    have := selTo_len (frcN xs) xs.length
    have := (vItems_iff.1 h).2.2.1
    omega
  · simp

theorem impl_ValidItemsE (A : Option Addr) (c : Nat) (xs : List Item) (b : Bool) (w : World) (hS : Sl w A 6 encT xs) (h : vItems xs = b) :
    Calls Try.prog 19 #[.slice A xs.length c] w fun e w' => e = .returned (.bool b) ∧ Gr w w' := by
  have := impl_ValidItems A c xs w hS
  rwa [h] at this

theorem spec_validItemsE (A : Option Addr) (c : Nat) (xs : List Item) (b : Bool) (w : World) (hS : Sl w A 6 encT xs) (hl : xs.length ≤ 1048576) (h : vItems xs = b) :
    Calls Try.prog 64 #[.slice A xs.length c] w fun e w' => e = .returned (.bool b) ∧ Gr w w' := by
  have := spec_validItems A c xs w hS hl
  rwa [h] at this

theorem impl_isForcedE (x : Item) (b : Bool) (w : World) (h : forced x = b) :
    Calls Try.prog 67 #[vT x] w fun e w' => e = .returned (.bool b) ∧ Gr w w' := by
  have := impl_isForced x w
  rwa [h] at this

theorem impl_isBreak (A : Option Addr) (c : Nat) (xs : List Item) (i : Int) (b : Bool) (w : World) (hS : Sl w A 6 encT xs) (hl : xs.length ≤ 1048576) (h : brk xs i = b) :
    Calls Try.prog 97 #[.slice A xs.length c, .int .i64 i] w fun e w' => e = .returned (.bool b) ∧ Gr w w' := by
  subst h
  by_cases hr : 0 ≤ i ∧ i < xs.length
  · obtain ⟨h0, h1⟩ := hr
    have hr : inR i 0 ((xs.length : Int) - 1) = true := by simp [inR]; omega
    obtain ⟨x, hx⟩ : ∃ x, xs[i.toNat]? = some x := ⟨_, List.getElem?_eq_getElem (by omega)⟩
    have hs := hS.nn (by omega)
    have cx := hS.el _ x hx
    have e1 := brk_at h0 hx
    by_cases h2 : 0 < i
    · obtain ⟨y, hy⟩ : ∃ y, xs[(i - 1).toNat]? = some y := ⟨_, List.getElem?_eq_getElem (by omega)⟩
      have cy := hS.el _ y hy
      rw [show i.toNat - 1 = (i - 1).toNat by omega, hy] at e1
      refine calls_W Try.func97 rfl Try.ntmps97 rfl ?_
      repeat' (first | refine wl_nil ?_ | refine Th_normal ?_ | refine W_seq ?_ | refine W_region ?_ | refine W_condT rfl ?_ | refine W_condF rfl ?_ | refine W_block ?_ | refine W_ret ?_ | refine W_exit ?_ | refine W_skip ?_ | refine Th_ret ?_ | refine Th_exit ?_ | refine Bl_normal ?_ | refine Bl_ret ?_ | refine Bl_exit rfl ?_ | refine Bl_pass rfl ?_ | refine W_condB rfl (fun tt => ?_) (fun tt => ?_) | (show fnPost _ _ _ _ _ _ _; refine fret (rv1 rfl rfl) ?_) | (show WL _ _ _ _ _ _ _; first | (refine wl_do (op := .call { callee := .value (.func 57), args := _, argTypes := _ }) rfl rfl ?_; refine st_callP Try.func57 rfl rfl rfl (impl_withinT _ _ _ _ hr) ?_) | refine wl_val rfl rfl (q_pv rfl) ?_ | refine wl_skip rfl rfl ?_ | refine wl_val rfl rfl (q_sub rfl rfl (by omega)) ?_ | refine wl_val rfl rfl (q_len rfl) ?_ | refine wl_val rfl rfl (q_lenS rfl) ?_ | refine wl_val rfl rfl (q_fieldAddr rfl) ?_ | refine wl_val rfl rfl (q_indexAddr _ rfl rfl rfl (by omega) (by first | assumption | rfl)) ?_ | refine wl_val rfl rfl (q_indexAddrI rfl rfl (by omega) (by omega) (by first | assumption | rfl)) ?_ | refine wl_val rfl rfl (q_loadA rfl Cs.A (by rfl)) ?_ | refine wl_val rfl rfl (q_load1 rfl Cs.A (by rfl)) ?_ | refine wl_val rfl rfl (q_loadS rfl Cs.A (by rfl) (by rfl)) ?_ | refine wl_val rfl rfl (q_lss1 rfl rfl (by omega)) ?_ | refine wl_val rfl rfl (q_lss0 rfl rfl (by omega)) ?_ | refine wl_lss rfl rfl rfl rfl (fun tt => ?_) (fun tt => ?_) | refine wl_val rfl rfl (q_gtr1 rfl rfl (by omega)) ?_ | refine wl_val rfl rfl (q_gtr0 rfl rfl (by omega)) ?_ | refine wl_gtr rfl rfl rfl rfl (fun tt => ?_) (fun tt => ?_) | refine wl_val rfl rfl (q_eql1 rfl rfl (by omega)) ?_ | refine wl_val rfl rfl (q_eql0 rfl rfl (by omega)) ?_ | refine wl_eql rfl rfl rfl rfl (fun tt => ?_) (fun tt => ?_) | refine wl_val rfl rfl (q_eqlB rfl rfl) ?_ | refine wl_val rfl rfl (q_subw rfl rfl) ?_))
      all_goals exact ⟨ret_bool (by rw [e1]; simp_all), Gr.A⟩
    · have h3 : decide (0 < i) = false := by simpa using h2
      rw [h3] at e1
      refine calls_W Try.func97 rfl Try.ntmps97 rfl ?_
      repeat' (first | refine wl_nil ?_ | refine Th_normal ?_ | refine W_seq ?_ | refine W_region ?_ | refine W_condT rfl ?_ | refine W_condF rfl ?_ | refine W_block ?_ | refine W_ret ?_ | refine W_exit ?_ | refine W_skip ?_ | refine Th_ret ?_ | refine Th_exit ?_ | refine Bl_normal ?_ | refine Bl_ret ?_ | refine Bl_exit rfl ?_ | refine Bl_pass rfl ?_ | refine W_condB rfl (fun tt => ?_) (fun tt => ?_) | (show fnPost _ _ _ _ _ _ _; refine fret (rv1 rfl rfl) ?_) | (show WL _ _ _ _ _ _ _; first | (refine wl_do (op := .call { callee := .value (.func 57), args := _, argTypes := _ }) rfl rfl ?_; refine st_callP Try.func57 rfl rfl rfl (impl_withinT _ _ _ _ hr) ?_) | refine wl_val rfl rfl (q_pv rfl) ?_ | refine wl_skip rfl rfl ?_ | refine wl_val rfl rfl (q_sub rfl rfl (by omega)) ?_ | refine wl_val rfl rfl (q_len rfl) ?_ | refine wl_val rfl rfl (q_lenS rfl) ?_ | refine wl_val rfl rfl (q_fieldAddr rfl) ?_ | refine wl_val rfl rfl (q_indexAddr _ rfl rfl rfl (by omega) (by first | assumption | rfl)) ?_ | refine wl_val rfl rfl (q_indexAddrI rfl rfl (by omega) (by omega) (by first | assumption | rfl)) ?_ | refine wl_val rfl rfl (q_loadA rfl Cs.A (by rfl)) ?_ | refine wl_val rfl rfl (q_load1 rfl Cs.A (by rfl)) ?_ | refine wl_val rfl rfl (q_loadS rfl Cs.A (by rfl) (by rfl)) ?_ | refine wl_val rfl rfl (q_lss1 rfl rfl (by omega)) ?_ | refine wl_val rfl rfl (q_lss0 rfl rfl (by omega)) ?_ | refine wl_lss rfl rfl rfl rfl (fun tt => ?_) (fun tt => ?_) | refine wl_val rfl rfl (q_gtr1 rfl rfl (by omega)) ?_ | refine wl_val rfl rfl (q_gtr0 rfl rfl (by omega)) ?_ | refine wl_gtr rfl rfl rfl rfl (fun tt => ?_) (fun tt => ?_) | refine wl_val rfl rfl (q_eql1 rfl rfl (by omega)) ?_ | refine wl_val rfl rfl (q_eql0 rfl rfl (by omega)) ?_ | refine wl_eql rfl rfl rfl rfl (fun tt => ?_) (fun tt => ?_) | refine wl_val rfl rfl (q_eqlB rfl rfl) ?_ | refine wl_val rfl rfl (q_subw rfl rfl) ?_))
      all_goals exact ⟨ret_bool (by rw [e1]; simp_all), Gr.A⟩
  · have hr2 : inR i 0 ((xs.length : Int) - 1) = false := by simp [inR]; omega
    have e1 : brk xs i = false := by
      cases hb : brk xs i
      · rfl
      · have := brk_iff.1 hb; exact absurd ⟨this.1, this.2.1⟩ hr
    refine calls_W Try.func97 rfl Try.ntmps97 rfl ?_
    repeat' (first | refine wl_nil ?_ | refine Th_normal ?_ | refine W_seq ?_ | refine W_region ?_ | refine W_condT rfl ?_ | refine W_condF rfl ?_ | refine W_block ?_ | refine W_ret ?_ | refine W_exit ?_ | refine W_skip ?_ | refine Th_ret ?_ | refine Th_exit ?_ | refine Bl_normal ?_ | refine Bl_ret ?_ | refine Bl_exit rfl ?_ | refine Bl_pass rfl ?_ | refine W_condB rfl (fun tt => ?_) (fun tt => ?_) | (show fnPost _ _ _ _ _ _ _; refine fret (rv1 rfl rfl) ?_) | (show WL _ _ _ _ _ _ _; first | (refine wl_do (op := .call { callee := .value (.func 57), args := _, argTypes := _ }) rfl rfl ?_; refine st_callP Try.func57 rfl rfl rfl (impl_withinF _ _ _ _ hr2) ?_) | refine wl_val rfl rfl (q_pv rfl) ?_ | refine wl_skip rfl rfl ?_ | refine wl_val rfl rfl (q_sub rfl rfl (by omega)) ?_ | refine wl_val rfl rfl (q_len rfl) ?_ | refine wl_val rfl rfl (q_lenS rfl) ?_ | refine wl_val rfl rfl (q_fieldAddr rfl) ?_ | refine wl_val rfl rfl (q_indexAddr _ rfl rfl rfl (by omega) (by first | assumption | rfl)) ?_ | refine wl_val rfl rfl (q_indexAddrI rfl rfl (by omega) (by omega) (by first | assumption | rfl)) ?_ | refine wl_val rfl rfl (q_loadA rfl Cs.A (by rfl)) ?_ | refine wl_val rfl rfl (q_load1 rfl Cs.A (by rfl)) ?_ | refine wl_val rfl rfl (q_loadS rfl Cs.A (by rfl) (by rfl)) ?_ | refine wl_val rfl rfl (q_lss1 rfl rfl (by omega)) ?_ | refine wl_val rfl rfl (q_lss0 rfl rfl (by omega)) ?_ | refine wl_lss rfl rfl rfl rfl (fun tt => ?_) (fun tt => ?_) | refine wl_val rfl rfl (q_gtr1 rfl rfl (by omega)) ?_ | refine wl_val rfl rfl (q_gtr0 rfl rfl (by omega)) ?_ | refine wl_gtr rfl rfl rfl rfl (fun tt => ?_) (fun tt => ?_) | refine wl_val rfl rfl (q_eql1 rfl rfl (by omega)) ?_ | refine wl_val rfl rfl (q_eql0 rfl rfl (by omega)) ?_ | refine wl_eql rfl rfl rfl rfl (fun tt => ?_) (fun tt => ?_) | refine wl_val rfl rfl (q_eqlB rfl rfl) ?_ | refine wl_val rfl rfl (q_subw rfl rfl) ?_))
    exact ⟨ret_bool e1.symm, Gr.A⟩

theorem frcN_at {xs : List Item} {i : Nat} {x : Item} (hx : xs[i]? = some x) : frcN xs i = forced x := by simp [frcN, hx]

theorem impl_ForcedBreaks (A : Option Addr) (c : Nat) (xs : List Item) (w : World) (hS : Sl w A 6 encT xs) :
    Calls Try.prog 21 #[.slice A xs.length c] w fun e w' => ∃ B d, e = .returned (.slice B (forcedOf xs).length d) ∧ Gr w w' ∧ Ow w' w.heap.size 3 1 encI B d (forcedOf xs) := by
  cases hv : vItems xs
  · have e0 : forcedOf xs = [] := by simp [forcedOf, hv]
    rw [e0]
    refine calls_W Try.func21 rfl Try.ntmps21 rfl ?_
    repeat' (first | refine wl_nil ?_ | refine Th_normal ?_ | refine W_seq ?_ | refine W_region ?_ | refine W_condT rfl ?_ | refine W_condF rfl ?_ | refine W_block ?_ | refine W_ret ?_ | refine W_exit ?_ | refine W_skip ?_ | refine Th_ret ?_ | refine Th_exit ?_ | refine Bl_normal ?_ | refine Bl_ret ?_ | refine Bl_exit rfl ?_ | refine Bl_pass rfl ?_ | refine W_condB rfl (fun tt => ?_) (fun tt => ?_) | (show fnPost _ _ _ _ _ _ _; refine fret (rv1 rfl rfl) ?_) | (show WL _ _ _ _ _ _ _; first | (refine wl_do (op := .call { callee := .value (.func 19), args := _, argTypes := _ }) rfl rfl ?_; refine st_callV Try.func19 rfl rfl rfl (impl_ValidItemsE _ _ _ _ _ (hS.gr Gr.A) hv) (fun w1 g1 z1 => ?_)) | refine wl_val rfl rfl (q_pv rfl) ?_ | refine wl_val rfl rfl (q_add rfl rfl (by omega)) ?_ | refine wl_val rfl rfl (q_len rfl) ?_ | refine wl_val rfl rfl (q_lenS rfl) ?_ | refine wl_val rfl rfl (q_indexAddr _ rfl rfl rfl (by omega) (by first | assumption | rfl)) ?_ | refine wl_val rfl rfl (q_indexAddrI rfl rfl (by omega) (by omega) (by first | assumption | rfl)) ?_ | refine wl_val rfl rfl (q_loadA rfl Cs.A (by rfl)) ?_ | refine wl_val rfl rfl (q_load1 rfl Cs.A (by rfl)) ?_ | refine wl_val rfl rfl (q_loadS rfl Cs.A (by rfl) (by rfl)) ?_ | (refine wl_do rfl rfl ?_; first | refine st_alloc (fun b w1 e1 g1 z1 f1 => ?_) | refine st_store rfl rfl rfl rfl rfl rfl Bx.A (by first | rfl | (rw [Nat.ble_eq]; simp; omega)) (fun w1 g1 z1 f1 => ?_) | refine st_buildSlice rfl rfl rfl (fun b w1 e1 g1 z1 f1 => ?_)) | refine wl_val rfl rfl (q_lss1 rfl rfl (by omega)) ?_ | refine wl_val rfl rfl (q_lss0 rfl rfl (by omega)) ?_ | refine wl_lss rfl rfl rfl rfl (fun tt => ?_) (fun tt => ?_) | refine wl_val rfl rfl (q_addw rfl rfl) ?_))
    exact ⟨none, 0, rfl, Gr.A, Ow.nil⟩
  · obtain ⟨_, hv1, hv2, _⟩ := vItems_iff.1 hv
    have e0 : forcedOf xs = selTo (frcN xs) xs.length := by simp [forcedOf, hv]
    have hs := hS.nn (by omega)
    rw [e0]
    refine calls_W Try.func21 rfl Try.ntmps21 rfl ?_
    repeat' (first | refine wl_nil ?_ | refine Th_normal ?_ | refine W_seq ?_ | refine W_region ?_ | refine W_condT rfl ?_ | refine W_condF rfl ?_ | refine W_block ?_ | refine W_ret ?_ | refine W_exit ?_ | refine W_skip ?_ | refine Th_ret ?_ | refine Th_exit ?_ | refine Bl_normal ?_ | refine Bl_ret ?_ | refine Bl_exit rfl ?_ | refine Bl_pass rfl ?_ | refine W_condB rfl (fun tt => ?_) (fun tt => ?_) | (show fnPost _ _ _ _ _ _ _; refine fret (rv1 rfl rfl) ?_) | (show WL _ _ _ _ _ _ _; first | (refine wl_do (op := .call { callee := .value (.func 19), args := _, argTypes := _ }) rfl rfl ?_; refine st_callV Try.func19 rfl rfl rfl (impl_ValidItemsE _ _ _ _ _ (hS.gr Gr.A) hv) (fun w1 g1 z1 => ?_)) | refine wl_val rfl rfl (q_pv rfl) ?_ | refine wl_val rfl rfl (q_add rfl rfl (by omega)) ?_ | refine wl_val rfl rfl (q_len rfl) ?_ | refine wl_val rfl rfl (q_lenS rfl) ?_ | refine wl_val rfl rfl (q_indexAddr _ rfl rfl rfl (by omega) (by first | assumption | rfl)) ?_ | refine wl_val rfl rfl (q_indexAddrI rfl rfl (by omega) (by omega) (by first | assumption | rfl)) ?_ | refine wl_val rfl rfl (q_loadA rfl Cs.A (by rfl)) ?_ | refine wl_val rfl rfl (q_load1 rfl Cs.A (by rfl)) ?_ | refine wl_val rfl rfl (q_loadS rfl Cs.A (by rfl) (by rfl)) ?_ | (refine wl_do rfl rfl ?_; first | refine st_alloc (fun b w1 e1 g1 z1 f1 => ?_) | refine st_store rfl rfl rfl rfl rfl rfl Bx.A (by first | rfl | (rw [Nat.ble_eq]; simp; omega)) (fun w1 g1 z1 f1 => ?_) | refine st_buildSlice rfl rfl rfl (fun b w1 e1 g1 z1 f1 => ?_)) | refine wl_val rfl rfl (q_lss1 rfl rfl (by omega)) ?_ | refine wl_val rfl rfl (q_lss0 rfl rfl (by omega)) ?_ | refine wl_lss rfl rfl rfl rfl (fun tt => ?_) (fun tt => ?_) | refine wl_val rfl rfl (q_addw rfl rfl) ?_))
    refine W_loop3 (fun (i : Nat) (B : Option Addr) (d : Nat) => [(11, .int .i64 (i : Int)), (0, .slice A xs.length c), (9, .slice A xs.length c), (10, .int .i64 (xs.length : Int)), (3, .slice B (selTo (frcN xs) i).length d)]) (fun i B d w' => Gr w w' ∧ i ≤ xs.length ∧ Ow w' w.heap.size 3 1 encI B d (selTo (frcN xs) i)) (fun i _ _ => xs.length - i) 0 none 0 ⟨rfl, rfl, rfl, rfl, rfl, trivial⟩ ⟨Gr.A, by omega, Ow.nil⟩ ?_
    rintro i B d w' ⟨g, hi, hO⟩
    have hz := g.size
    have hsl := selTo_len (frcN xs) i
    by_cases hlt : i < xs.length
    · obtain ⟨x, hx⟩ : ∃ x, xs[i]? = some x := ⟨_, List.getElem?_eq_getElem hlt⟩
      have cx := (hS.el i x hx).gr g
      have hb0 := frcN_at hx
      cases hb : forced x
      · rw [hb] at hb0
        repeat' (first | refine wl_nil ?_ | refine Th_normal ?_ | refine W_seq ?_ | refine W_region ?_ | refine W_condT rfl ?_ | refine W_condF rfl ?_ | refine W_block ?_ | refine W_ret ?_ | refine W_exit ?_ | refine W_skip ?_ | refine Th_ret ?_ | refine Th_exit ?_ | refine Bl_normal ?_ | refine Bl_ret ?_ | refine Bl_exit rfl ?_ | refine Bl_pass rfl ?_ | refine W_condB rfl (fun tt => ?_) (fun tt => ?_) | (show fnPost _ _ _ _ _ _ _; refine fret (rv1 rfl rfl) ?_) | (show WL _ _ _ _ _ _ _; first | (refine wl_do (op := .call { callee := .value (.func 67), args := _, argTypes := _ }) rfl rfl ?_; refine st_callV Try.func67 rfl rfl rfl (impl_isForcedE x _ _ hb) (fun w1 g1 z1 => ?_)) | refine wl_val rfl rfl (q_pv rfl) ?_ | refine wl_val rfl rfl (q_add rfl rfl (by omega)) ?_ | refine wl_val rfl rfl (q_len rfl) ?_ | refine wl_val rfl rfl (q_lenS rfl) ?_ | refine wl_val rfl rfl (q_indexAddr _ rfl rfl rfl (by omega) (by first | assumption | rfl)) ?_ | refine wl_val rfl rfl (q_indexAddrI rfl rfl (by omega) (by omega) (by first | assumption | rfl)) ?_ | refine wl_val rfl rfl (q_loadA rfl Cs.A (by rfl)) ?_ | refine wl_val rfl rfl (q_load1 rfl Cs.A (by rfl)) ?_ | refine wl_val rfl rfl (q_loadS rfl Cs.A (by rfl) (by rfl)) ?_ | (refine wl_do rfl rfl ?_; first | refine st_alloc (fun b w1 e1 g1 z1 f1 => ?_) | refine st_store rfl rfl rfl rfl rfl rfl Bx.A (by first | rfl | (rw [Nat.ble_eq]; simp; omega)) (fun w1 g1 z1 f1 => ?_) | refine st_buildSlice rfl rfl rfl (fun b w1 e1 g1 z1 f1 => ?_)) | refine wl_val rfl rfl (q_lss1 rfl rfl (by omega)) ?_ | refine wl_val rfl rfl (q_lss0 rfl rfl (by omega)) ?_ | refine wl_lss rfl rfl rfl rfl (fun tt => ?_) (fun tt => ?_) | refine wl_val rfl rfl (q_addw rfl rfl) ?_))
        exact ⟨i + 1, B, d, by omega, ⟨Gr.A, by omega, by rw [selTo_succ_f hb0]; exact hO.gr Gr.A⟩, ⟨rfl, rfl, rfl, rfl, by rw [selTo_succ_f hb0]; rfl, trivial⟩⟩
      · rw [hb] at hb0
        repeat' (first | refine wl_nil ?_ | refine Th_normal ?_ | refine W_seq ?_ | refine W_region ?_ | refine W_condT rfl ?_ | refine W_condF rfl ?_ | refine W_block ?_ | refine W_ret ?_ | refine W_exit ?_ | refine W_skip ?_ | refine Th_ret ?_ | refine Th_exit ?_ | refine Bl_normal ?_ | refine Bl_ret ?_ | refine Bl_exit rfl ?_ | refine Bl_pass rfl ?_ | refine W_condB rfl (fun tt => ?_) (fun tt => ?_) | (show fnPost _ _ _ _ _ _ _; refine fret (rv1 rfl rfl) ?_) | (show WL _ _ _ _ _ _ _; first | (refine wl_do (op := .call { callee := .value (.func 67), args := _, argTypes := _ }) rfl rfl ?_; refine st_callV Try.func67 rfl rfl rfl (impl_isForcedE x _ _ hb) (fun w1 g1 z1 => ?_)) | (refine wl_do rfl rfl ?_; refine st_append (ys := [(i : Int)]) (Ow.gr Gr.A hO) rfl rfl rfl rfl (Bx.cs Bx.A) rfl (fun _ => rfl) (fun _ => rfl) rfl (by first | (simp; omega) | (simp; done) | omega) (by omega) (fun B1 d1 w3 g3 z3 k3 n3 hO1 => ?_); have h3 := Gr.ap (a := w) Gr.A (Ow.gr Gr.A hO) (by omega) g3) | refine wl_val rfl rfl (q_pv rfl) ?_ | refine wl_val rfl rfl (q_add rfl rfl (by omega)) ?_ | refine wl_val rfl rfl (q_len rfl) ?_ | refine wl_val rfl rfl (q_lenS rfl) ?_ | refine wl_val rfl rfl (q_indexAddr _ rfl rfl rfl (by omega) (by first | assumption | rfl)) ?_ | refine wl_val rfl rfl (q_indexAddrI rfl rfl (by omega) (by omega) (by first | assumption | rfl)) ?_ | refine wl_val rfl rfl (q_loadA rfl Cs.A (by rfl)) ?_ | refine wl_val rfl rfl (q_load1 rfl Cs.A (by rfl)) ?_ | refine wl_val rfl rfl (q_loadS rfl Cs.A (by rfl) (by rfl)) ?_ | (refine wl_do rfl rfl ?_; first | refine st_alloc (fun b w1 e1 g1 z1 f1 => ?_) | refine st_store rfl rfl rfl rfl rfl rfl Bx.A (by first | rfl | (rw [Nat.ble_eq]; simp; omega)) (fun w1 g1 z1 f1 => ?_) | refine st_buildSlice rfl rfl rfl (fun b w1 e1 g1 z1 f1 => ?_)) | refine wl_val rfl rfl (q_lss1 rfl rfl (by omega)) ?_ | refine wl_val rfl rfl (q_lss0 rfl rfl (by omega)) ?_ | refine wl_lss rfl rfl rfl rfl (fun tt => ?_) (fun tt => ?_) | refine wl_val rfl rfl (q_addw rfl rfl) ?_))
        exact ⟨i + 1, B1, d1, by omega, ⟨Gr.A, by omega, by rw [selTo_succ_t hb0]; exact hO1⟩, ⟨rfl, rfl, rfl, rfl, by rw [selTo_succ_t hb0]; rfl, trivial⟩⟩
    · obtain rfl : i = xs.length := by omega
      repeat' (first | refine wl_nil ?_ | refine Th_normal ?_ | refine W_seq ?_ | refine W_region ?_ | refine W_condT rfl ?_ | refine W_condF rfl ?_ | refine W_block ?_ | refine W_ret ?_ | refine W_exit ?_ | refine W_skip ?_ | refine Th_ret ?_ | refine Th_exit ?_ | refine Bl_normal ?_ | refine Bl_ret ?_ | refine Bl_exit rfl ?_ | refine Bl_pass rfl ?_ | refine W_condB rfl (fun tt => ?_) (fun tt => ?_) | (show fnPost _ _ _ _ _ _ _; refine fret (rv1 rfl rfl) ?_) | (show WL _ _ _ _ _ _ _; first | refine wl_val rfl rfl (q_pv rfl) ?_ | refine wl_val rfl rfl (q_add rfl rfl (by omega)) ?_ | refine wl_val rfl rfl (q_len rfl) ?_ | refine wl_val rfl rfl (q_lenS rfl) ?_ | refine wl_val rfl rfl (q_indexAddr _ rfl rfl rfl (by omega) (by first | assumption | rfl)) ?_ | refine wl_val rfl rfl (q_indexAddrI rfl rfl (by omega) (by omega) (by first | assumption | rfl)) ?_ | refine wl_val rfl rfl (q_loadA rfl Cs.A (by rfl)) ?_ | refine wl_val rfl rfl (q_load1 rfl Cs.A (by rfl)) ?_ | refine wl_val rfl rfl (q_loadS rfl Cs.A (by rfl) (by rfl)) ?_ | (refine wl_do rfl rfl ?_; first | refine st_alloc (fun b w1 e1 g1 z1 f1 => ?_) | refine st_store rfl rfl rfl rfl rfl rfl Bx.A (by first | rfl | (rw [Nat.ble_eq]; simp; omega)) (fun w1 g1 z1 f1 => ?_) | refine st_buildSlice rfl rfl rfl (fun b w1 e1 g1 z1 f1 => ?_)) | refine wl_val rfl rfl (q_lss1 rfl rfl (by omega)) ?_ | refine wl_val rfl rfl (q_lss0 rfl rfl (by omega)) ?_ | refine wl_lss rfl rfl rfl rfl (fun tt => ?_) (fun tt => ?_) | refine wl_val rfl rfl (q_addw rfl rfl) ?_))
      exact ⟨B, d, rfl, Gr.A, hO⟩

end Go.Proofs.Ytdenlafdbfbkoaa
