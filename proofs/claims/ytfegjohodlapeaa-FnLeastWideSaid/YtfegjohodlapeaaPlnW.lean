/- The number of lines: bounds by the breaks and by the forced breaks. No program in sight. -/
import Derived.Test.YtfegjohodlapeaaPlnC
import Derived.Test.YtfegjohodlapeaaPlnV
namespace Go.Proofs.Ytfegjohodlapeaa
open Go.RowKit
set_option linter.unusedVariables false
set_option linter.unusedSimpArgs false

theorem countP_more {p q : Nat → Bool} {t : Nat} (h : ∀ i, q i = true → p i = true) (hp : p t = true) (hq : q t = false) : ∀ n, t < n → List.countP q (List.range n) + 1 ≤ List.countP p (List.range n)
  | 0, hn => by omega
  | n + 1, hn => by
    rw [List.range_succ, List.countP_append, List.countP_append]
    by_cases he : t = n
    · subst he
      have := List.countP_mono_left (l := List.range t) (fun i _ hi => h i hi)
      simp only [List.countP_singleton, hp, hq]
      simp
      exact this
    · have ih := countP_more h hp hq n (by omega)
      have : List.countP q [n] ≤ List.countP p [n] := List.countP_mono_left (fun i _ hi => h i hi)
      omega

theorem chain_breaks {xs : List Item} : ∀ (bs : List Int) (f : Int), -1 ≤ f → Chain xs f bs → bs.length ≤ List.countP (fun i => brkN xs i && decide (f < (i : Int))) (List.range xs.length)
  | [], f, _, h => by simp
  | t :: bs, f, h0, h => by
    obtain ⟨hk, hc⟩ := h
    obtain ⟨a1, a2, a3, a4, a5, _⟩ := lineOk_iff.1 hk
    have ih := chain_breaks bs t (by omega) hc
    obtain ⟨b1, b2, b3⟩ := brk_iff.1 a5
    have := countP_more (p := fun i => brkN xs i && decide (f < (i : Int))) (q := fun i => brkN xs i && decide (t < (i : Int))) (t := t.toNat) (fun i hi => by
      simp only [Bool.and_eq_true, decide_eq_true_eq] at hi ⊢
      exact ⟨hi.1, by omega⟩) (by simp only [b3, Bool.true_and, decide_eq_true_eq]; omega) (by simp only [b3, Bool.true_and, decide_eq_false_iff_not]; omega) xs.length (by omega)
    simp only [List.length_cons]
    omega

theorem breaks_len {xs : List Item} {bs : List Int} (h : vBreaks xs bs = true) : bs.length ≤ (breaksOf xs).length := by
  obtain ⟨hv, hc⟩ := chain_iff.1 h
  have := chain_breaks bs (-1) (by omega) hc
  rw [breaksOf, if_pos hv]
  unfold selTo
  rw [List.length_map, ← List.countP_eq_length_filter]
  refine Nat.le_trans this (List.countP_mono_left (fun i _ hi => ?_))
  simp only [Bool.and_eq_true] at hi
  exact hi.1

theorem linesTo_snoc_le {xs : List Item} {l : List Int} {t : Int} : ∀ {i : Nat}, i ≤ l.length → linesTo xs (l ++ [t]) i = linesTo xs l i
  | 0, _ => rfl
  | i + 1, h => by
    have ih := linesTo_snoc_le (xs := xs) (l := l) (t := t) (i := i) (by omega)
    have e1 := frm_snoc_le (l := l) (t := t) (i := i) (by omega)
    have e2 := frm_snoc_le (l := l) (t := t) (i := i + 1) h
    rw [linesTo_succ, linesTo_succ, ih, e1, e2]

theorem linesTo_snoc {xs : List Item} {l : List Int} {t : Int} : linesTo xs (l ++ [t]) (l.length + 1) = (linesTo xs l l.length && lineOk xs (frm l l.length) t) := by
  rw [linesTo_succ, linesTo_snoc_le (Nat.le_refl _), frm_snoc_le (Nat.le_refl _), frm_snoc]

/-- From one forced break to the next: these are lines. -/
theorem forced_lines {xs : List Item} : ∀ n : Nat, n ≤ xs.length → linesTo xs (selTo (frcN xs) n) (selTo (frcN xs) n).length = true ∧ -1 ≤ frm (selTo (frcN xs) n) (selTo (frcN xs) n).length ∧ frm (selTo (frcN xs) n) (selTo (frcN xs) n).length < n ∧ (frm (selTo (frcN xs) n) (selTo (frcN xs) n).length = -1 ∨ brk xs (frm (selTo (frcN xs) n) (selTo (frcN xs) n).length) = true) ∧
    ∀ (j : Nat) x, xs[j]? = some x → frm (selTo (frcN xs) n) (selTo (frcN xs) n).length < j → j < n → forced x = false
  | 0, _ => by
    refine ⟨rfl, ?_, ?_, .inl rfl, fun j x _ _ h => by omega⟩ <;> simp [selTo, frm]
  | n + 1, h => by
    obtain ⟨h1, h2, h3, h4, h5⟩ := forced_lines (xs := xs) n (by omega)
    obtain ⟨x, hx⟩ : ∃ x, xs[n]? = some x := ⟨_, List.getElem?_eq_getElem (by omega)⟩
    cases hf : frcN xs n
    · rw [selTo_succ_f hf]
      refine ⟨h1, h2, by omega, h4, fun j y hy h6 h7 => ?_⟩
      by_cases hj : j < n
      · exact h5 j y hy h6 hj
      · have : j = n := by omega
        subst this
        rw [frcN, hy] at hf
        exact hf
    · rw [selTo_succ_t hf]
      have hfx : forced x = true := by rw [frcN, hx] at hf; exact hf
      have hb : brk xs (n : Int) = true := brk_iff.2 ⟨by omega, by omega, by simpa using brkN_forced hx hfx⟩
      have hl : lineOk xs (frm (selTo (frcN xs) n) (selTo (frcN xs) n).length) (n : Int) = true := lineOk_iff.2 ⟨h3, h2, by omega, h4, hb, fun j y hy h6 h7 => h5 j y hy h6 (by omega)⟩
      rw [List.length_append]
      have e : frm (selTo (frcN xs) n ++ [(n : Int)]) ((selTo (frcN xs) n).length + [(n : Int)].length) = n := frm_snoc
      refine ⟨by rw [show (selTo (frcN xs) n).length + [(n : Int)].length = (selTo (frcN xs) n).length + 1 from rfl, linesTo_snoc, h1, hl]; rfl, by rw [e]; omega, by rw [e]; omega, by rw [e]; exact .inr hb, fun j y hy h6 h7 => ?_⟩
      rw [e] at h6
      omega

theorem forced_valid {xs : List Item} (hv : vItems xs = true) : vBreaks xs (forcedOf xs) = true ∧ 0 < (forcedOf xs).length := by
  obtain ⟨_, h1, _, x, hx, hf⟩ := vItems_iff.1 hv
  have e : forcedOf xs = selTo (frcN xs) xs.length := by rw [forcedOf, if_pos hv]
  have hl := forced_lines (xs := xs) xs.length (Nat.le_refl _)
  have hla : (selTo (frcN xs) xs.length).getLast? = some ((xs.length : Int) - 1) := selTo_last h1 (by rw [frcN, hx]; exact hf)
  rw [List.getLast?_eq_getElem?] at hla
  have hlen := (List.getElem?_eq_some_iff.1 hla).1
  have hfr := frm_last (by omega) hla
  rw [← e] at hl hfr hlen
  refine ⟨?_, by omega⟩
  simp only [vBreaks, hv, hl.1, hfr, Bool.and_self, decide_true]

theorem wide_kL {xs : List Item} {f t : Int} (hv : vItems xs = true) (h : lineOk xs f t = true) : kL xs 10000 10000 f t = some 1 := by
  have hd : inR 10000 1 10000 = true := by decide
  have hb := (fitLn_bd (f := f) (t := t) hv hd)
  have h4 : (fitLn xs f t 10000).1 ≠ 4 := by
    have hc := vGlue_iff.1 (clamp_ok (f := f) (t := t) hv)
    unfold fitLn fitI
    split
    · simp
    · split
      · simp
      · exfalso; omega
  have hc : ∃ m, lnCost xs f t 10000 10000 = (m, true) := by
    unfold lnCost
    rw [if_neg (by rintro (h | h); exact h4 h; omega)]
    exact ⟨_, rfl⟩
  obtain ⟨m, hm⟩ := hc
  simp [kL, kB, h, hm]

theorem chkL_lines {xs : List Item} {bs : List Int} (hv : vItems xs = true) : ∀ {i : Nat}, linesTo xs bs i = true → chkTo (kL xs 10000 10000) bs i = some (i : Int)
  | 0, _ => rfl
  | i + 1, h => by
    rw [linesTo_succ, Bool.and_eq_true] at h
    have := chkTo_succ (chkL_lines hv h.1) (wide_kL hv h.2)
    rw [this]
    congr 1

theorem least_wide {xs : List Item} (hv : vItems xs = true) : leastR xs 10000 10000 = (forcedOf xs).length := by
  obtain ⟨h1, h2⟩ := forced_valid hv
  have h3 := h1
  simp only [vBreaks, Bool.and_eq_true, decide_eq_true_eq] at h3
  have hle := least_le (okB_iff.2 ⟨hv, by decide, by decide⟩) h2 h3.2 (chkL_lines hv h3.1.2)
  obtain ⟨L, hL, hl⟩ := least_ok hle.1
  have := forced_len hL
  omega

end Go.Proofs.Ytfegjohodlapeaa
