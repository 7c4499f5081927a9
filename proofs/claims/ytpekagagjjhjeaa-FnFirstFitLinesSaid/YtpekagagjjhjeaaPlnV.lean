/- Valid breaks: what is among them, and how many there are. No program in sight. -/
import Derived.Test.YtpekagagjjhjeaaPlnF
namespace Go.Proofs.Ytpekagagjjhjeaa
open Go.RowKit
set_option linter.unusedVariables false
set_option linter.unusedSimpArgs false

theorem mem_breaks {xs : List Item} {t : Int} (hv : vItems xs = true) (h : brk xs t = true) : t ∈ breaksOf xs := by
  obtain ⟨h1, h2, h3⟩ := brk_iff.1 h
  rw [breaksOf, if_pos hv]
  exact mem_selTo.2 ⟨t.toNat, by omega, h3, by omega⟩

theorem chain_forced {xs : List Item} {j : Nat} {x : Item} (hx : xs[j]? = some x) (hf : forced x = true) : ∀ (bs : List Int) (f : Int), Chain xs f bs → f < j → (j : Int) ∈ bs
  | [], f, h, h1 => by
    have := (List.getElem?_eq_some_iff.1 hx).1
    simp only [Chain] at h
    omega
  | t :: bs, f, h, h1 => by
    obtain ⟨hk, hc⟩ := h
    have ha := lineOk_iff.1 hk
    by_cases h2 : (j : Int) < t
    · have := ha.2.2.2.2.2 j x hx h1 h2
      rw [hf] at this
      cases this
    · by_cases h3 : (j : Int) = t
      · rw [h3]; simp
      · exact List.mem_cons_of_mem _ (chain_forced hx hf bs t hc (by omega))

theorem countP_one {p q : Nat → Bool} {t : Int} (h : ∀ i, p i = true → (i : Int) = t ∨ q i = true) : ∀ n, List.countP p (List.range n) ≤ List.countP q (List.range n) + (if 0 ≤ t ∧ t < n then 1 else 0)
  | 0 => by simp
  | n + 1 => by
    have ih := countP_one h n
    rw [List.range_succ, List.countP_append, List.countP_append]
    have key : List.countP p [n] ≤ List.countP q [n] + (if t = (n : Int) then 1 else 0) := by
      simp only [List.countP_singleton]
      have hn := h n
      cases hp : p n
      · simp
      · rcases hn hp with h1 | h1
        · rw [if_pos h1.symm]; simp
        · rw [h1]; simp
    have e : (if 0 ≤ t ∧ t < ((n + 1 : Nat) : Int) then 1 else 0) = (if 0 ≤ t ∧ t < (n : Int) then 1 else 0) + (if t = (n : Int) then 1 else 0) := by
      by_cases h1 : t = (n : Int)
      · rw [if_pos h1, if_pos (by omega), if_neg (by omega)]
      · rw [if_neg h1]
        by_cases h2 : 0 ≤ t ∧ t < (n : Int)
        · rw [if_pos h2, if_pos (by omega)]
        · rw [if_neg h2, if_neg (by omega)]
    rw [e]
    omega

theorem chain_count {xs : List Item} : ∀ (bs : List Int) (f : Int), Chain xs f bs → List.countP (fun i => frcN xs i && decide (f < (i : Int))) (List.range xs.length) ≤ bs.length
  | [], f, h => by
    simp only [Chain] at h
    rw [List.countP_eq_zero.2]
    · simp
    · intro i hi
      have := List.mem_range.1 hi
      simp only [Bool.and_eq_true, decide_eq_true_eq]
      omega
  | t :: bs, f, h => by
    obtain ⟨hk, hc⟩ := h
    have ih := chain_count bs t hc
    have := countP_one (p := fun i => frcN xs i && decide (f < (i : Int))) (q := fun i => frcN xs i && decide (t < (i : Int))) (t := t) (fun i hi => by
      simp only [Bool.and_eq_true, decide_eq_true_eq] at hi ⊢
      obtain ⟨h1, h2⟩ := hi
      by_cases h3 : (i : Int) < t
      · unfold frcN at h1
        split at h1
        · rename_i x hx
          have := (lineOk_iff.1 hk).2.2.2.2.2 i x hx h2 h3
          rw [h1] at this
          cases this
        · cases h1
      · by_cases h4 : (i : Int) = t
        · exact .inl h4
        · exact .inr ⟨h1, by omega⟩) xs.length
    simp only [List.length_cons]
    split at this <;> omega

theorem forced_len {xs : List Item} {bs : List Int} (h : vBreaks xs bs = true) : (forcedOf xs).length ≤ bs.length := by
  obtain ⟨hv, hc⟩ := chain_iff.1 h
  have := chain_count bs (-1) hc
  rw [forcedOf, if_pos hv]
  unfold selTo
  rw [List.length_map, ← List.countP_eq_length_filter]
  refine Nat.le_trans (List.countP_mono_left (fun i _ hi => ?_)) this
  simp only [hi, Bool.true_and, decide_eq_true_eq]
  omega

theorem forced_mem {xs : List Item} {bs : List Int} {i : Nat} {z : Int} (h : vBreaks xs bs = true) (hz : (forcedOf xs)[i]? = some z) : z ∈ bs := by
  obtain ⟨hv, hc⟩ := chain_iff.1 h
  rw [forcedOf, if_pos hv] at hz
  obtain ⟨j, hj, hb, rfl⟩ := mem_selTo.1 (List.mem_of_getElem? hz)
  unfold frcN at hb
  split at hb
  · rename_i x hx
    exact chain_forced hx hb bs (-1) hc (by omega)
  · cases hb

theorem vb_el {xs : List Item} {bs : List Int} {i : Nat} {y : Int} (h : vBreaks xs bs = true) (hy : bs[i]? = some y) : y ∈ breaksOf xs ∧ frm bs i < y ∧ lineOk xs (frm bs i) y = true := by
  have h2 := h
  simp only [vBreaks, Bool.and_eq_true] at h2
  have hl := linesTo_get h2.1.2 (List.getElem?_eq_some_iff.1 hy).1
  rw [frm_succ hy] at hl
  have ha := lineOk_iff.1 hl
  exact ⟨mem_breaks h2.1.1 ha.2.2.2.2.1, ha.1, hl⟩

end Go.Proofs.Ytpekagagjjhjeaa
