/- Sums of costs along breaks; the cheapest way is a way, and no way is cheaper. No program in sight. -/
import Derived.Test.YtfegjohodlapeaaPlnB
namespace Go.Proofs.Ytfegjohodlapeaa
open Go.RowKit
set_option linter.unusedVariables false
set_option linter.unusedSimpArgs false

section
variable (K : Int → Int → Option Int)

def chkTo (bs : List Int) : Nat → Option Int
  | 0 => some 0
  | i + 1 => match chkTo bs i, K (frm bs i) (frm bs (i + 1)) with
    | some s, some n => some (s + n)
    | _, _ => none

variable {K}

theorem chkTo_succ {bs : List Int} {i : Nat} {s n : Int} (h : chkTo K bs i = some s) (hk : K (frm bs i) (frm bs (i + 1)) = some n) : chkTo K bs (i + 1) = some (s + n) := by
  rw [chkTo, h, hk]

theorem chkTo_inv {bs : List Int} {i : Nat} {s : Int} (h : chkTo K bs (i + 1) = some s) : ∃ s0 n, chkTo K bs i = some s0 ∧ K (frm bs i) (frm bs (i + 1)) = some n ∧ s = s0 + n := by
  rw [chkTo] at h
  split at h
  · rename_i s0 n h1 h2
    cases h
    exact ⟨s0, n, h1, h2, rfl⟩
  · cases h

theorem chkTo_none {bs : List Int} : ∀ {n k : Nat}, k ≤ n → chkTo K bs k = none → chkTo K bs n = none
  | 0, k, h, hk => by
    have : k = 0 := by omega
    subst this; exact hk
  | n + 1, k, h, hk => by
    by_cases he : k = n + 1
    · subst he; exact hk
    · rw [chkTo, chkTo_none (n := n) (by omega) hk]

theorem chkTo_step_none {bs : List Int} {n k : Nat} (h : k < n) (hk : K (frm bs k) (frm bs (k + 1)) = none) : chkTo K bs n = none := by
  refine chkTo_none (k := k + 1) h ?_
  rw [chkTo, hk]
  split
  · rename_i h; cases h
  · rfl

theorem chkTo_get {bs : List Int} : ∀ {n k : Nat} {s : Int}, chkTo K bs n = some s → k < n → ∃ m, K (frm bs k) (frm bs (k + 1)) = some m
  | 0, k, s, h, hk => by omega
  | n + 1, k, s, h, hk => by
    obtain ⟨s0, m, h1, h2, _⟩ := chkTo_inv h
    by_cases he : k = n
    · subst he; exact ⟨m, h2⟩
    · exact chkTo_get h1 (by omega)

theorem chkTo_mono {K' : Int → Int → Option Int} (hK : ∀ f t n, K f t = some n → K' f t = some n) {bs : List Int} : ∀ {n : Nat} {s : Int}, chkTo K bs n = some s → chkTo K' bs n = some s
  | 0, s, h => h
  | n + 1, s, h => by
    obtain ⟨s0, m, h1, h2, rfl⟩ := chkTo_inv h
    exact chkTo_succ (chkTo_mono hK h1) (hK _ _ _ h2)

theorem frm_snoc_le {l : List Int} {t : Int} {i : Nat} (h : i ≤ l.length) : frm (l ++ [t]) i = frm l i := by
  unfold frm
  cases i with
  | zero => rfl
  | succ i => simp [List.getD_eq_getElem?_getD, List.getElem?_append_left (show i < l.length by omega)]
theorem frm_snoc {l : List Int} {t : Int} : frm (l ++ [t]) (l.length + 1) = t := by
  unfold frm
  simp [List.getD_eq_getElem?_getD]

theorem chkTo_snoc_le {l : List Int} {t : Int} : ∀ {i : Nat}, i ≤ l.length → chkTo K (l ++ [t]) i = chkTo K l i
  | 0, _ => rfl
  | i + 1, h => by
    rw [chkTo, chkTo, chkTo_snoc_le (by omega), frm_snoc_le (by omega), frm_snoc_le h]

/-- The way of the table is a way, and costs what the table says. -/
theorem pth_ok : ∀ (t : Nat) (m : Nat) (c f : Int), ent K t = some (c, f) → t < m → chkTo K (pth K m t) (pth K m t).length = some c ∧ frm (pth K m t) (pth K m t).length = t ∧ 0 < (pth K m t).length := by
  intro t
  induction t using Nat.strongRecOn with
  | _ t ih =>
    intro m c f h hm
    obtain ⟨h1, h2, c0, n, h3, h4, h5⟩ := ent_ok h
    have hst := pth_step (K := K) (m := m) (t := (t : Int)) (by omega) (by omega) (show ent K ((t : Int)).toNat = some (c, f) from h)
    rw [hst]
    have key : chkTo K (pth K (m - 1) f) (pth K (m - 1) f).length = some c0 ∧ frm (pth K (m - 1) f) (pth K (m - 1) f).length = f := by
      by_cases hf : f = -1
      · subst hf
        simp only [pc, if_true, Option.some.injEq] at h3
        rw [pth_neg (by omega)]
        exact ⟨by rw [← h3]; rfl, rfl⟩
      · simp only [pc, if_neg hf] at h3
        obtain ⟨p, hp, rfl⟩ := Option.map_eq_some_iff.1 h3
        have := ih f.toNat (by omega) (m - 1) p.1 p.2 hp (by omega)
        rw [show ((f.toNat : Nat) : Int) = f by omega] at this
        exact ⟨this.1, this.2.1⟩
    refine ⟨?_, ?_, by simp⟩
    · rw [List.length_append]
      have := chkTo_succ (K := K) (bs := pth K (m - 1) f ++ [(t : Int)]) (i := (pth K (m - 1) f).length) (s := c0) (n := n) (by rw [chkTo_snoc_le (Nat.le_refl _)]; exact key.1) (by rw [frm_snoc_le (Nat.le_refl _), frm_snoc, key.2]; exact h4)
      simp only [List.length_cons, List.length_nil, Nat.zero_add]
      rw [this, h5, Int.add_comm]
    · rw [List.length_append]
      exact frm_snoc

/-- No way is cheaper than the table says. -/
theorem ent_opt (hinc : ∀ f t n, K f t = some n → -1 ≤ f ∧ f < t) {bs : List Int} : ∀ (i : Nat) (s : Int), chkTo K bs (i + 1) = some s → ∃ c g, ent K (frm bs (i + 1)).toNat = some (c, g) ∧ c ≤ s
  | 0, s, h => by
    obtain ⟨s0, n, h1, h2, rfl⟩ := chkTo_inv h
    have hi := hinc _ _ _ h2
    rw [frm_zero, Nat.zero_add] at hi
    simp only [chkTo, Option.some.injEq] at h1
    obtain ⟨c, g, e, hle⟩ := ent_le (K := K) (t := (frm bs 1).toNat) (f := -1) (c0 := 0) (n := n) (by omega) (by omega) (by simp [pc]) (by rw [show (((frm bs 1).toNat : Nat) : Int) = frm bs 1 by omega]; exact h2)
    exact ⟨c, g, e, by omega⟩
  | i + 1, s, h => by
    obtain ⟨s0, n, h1, h2, rfl⟩ := chkTo_inv h
    obtain ⟨c, g, e, hle⟩ := ent_opt hinc i s0 h1
    have hi := hinc _ _ _ h2
    obtain ⟨_, n2, _, h4, _⟩ := chkTo_inv h1
    have hi2 := hinc _ _ _ h4
    have h0 : 0 ≤ frm bs (i + 1) := by omega
    obtain ⟨c', g', e', hle'⟩ := ent_le (K := K) (t := (frm bs (i + 1 + 1)).toNat) (f := frm bs (i + 1)) (c0 := c) (n := n) (by omega) (by omega) (by rw [pc, if_neg (by omega), e]; rfl) (by rw [show (((frm bs (i + 1 + 1)).toNat : Nat) : Int) = frm bs (i + 1 + 1) by omega]; exact h2)
    exact ⟨c', g', e', by omega⟩

theorem chkTo_bd {lo hi : Int} (hK : ∀ f t n, K f t = some n → -lo ≤ n ∧ n ≤ hi) {bs : List Int} : ∀ (i : Nat) (s : Int), chkTo K bs i = some s → -lo * (i : Int) ≤ s ∧ s ≤ hi * (i : Int)
  | 0, s, h => by
    simp only [chkTo, Option.some.injEq] at h
    subst h
    simp
  | i + 1, s, h => by
    obtain ⟨s0, n, h1, h2, rfl⟩ := chkTo_inv h
    have a := chkTo_bd hK i s0 h1
    have b := hK _ _ _ h2
    rw [Int.natCast_succ, Int.mul_add, Int.mul_add, Int.neg_mul]
    rw [Int.neg_mul] at a
    omega
end

theorem kB_inc {xs : List Item} {d tol f t n : Int} (h : kB xs d tol f t = some n) : -1 ≤ f ∧ f < t := by
  have := lineOk_iff.1 (kB_some h).1
  exact ⟨this.2.1, this.1⟩
theorem kL_some {xs : List Item} {d tol f t n : Int} (h : kL xs d tol f t = some n) : n = 1 ∧ ∃ m, kB xs d tol f t = some m := by
  unfold kL at h
  obtain ⟨m, hm, rfl⟩ := Option.map_eq_some_iff.1 h
  exact ⟨rfl, m, hm⟩
theorem kL_inc {xs : List Item} {d tol f t n : Int} (h : kL xs d tol f t = some n) : -1 ≤ f ∧ f < t := by
  obtain ⟨_, m, hm⟩ := kL_some h
  exact kB_inc hm

def chkR (xs : List Item) (d tol : Int) (bs : List Int) : Int × Bool :=
  if okB xs d tol && decide (0 < bs.length) && decide (frm bs bs.length = (xs.length : Int) - 1) then match chkTo (kB xs d tol) bs bs.length with
    | some s => (s, true)
    | none => (0, false)
  else (0, false)

def leastR (xs : List Item) (d tol : Int) : Int :=
  if okB xs d tol then match ent (kL xs d tol) (xs.length - 1) with
    | some (c, _) => c
    | none => 0
  else 0

theorem chk_lines {xs : List Item} {bs : List Int} {K : Int → Int → Option Int} (hK : ∀ f t n, K f t = some n → lineOk xs f t = true) : ∀ {i : Nat} {s : Int}, chkTo K bs i = some s → linesTo xs bs i = true
  | 0, s, h => rfl
  | i + 1, s, h => by
    obtain ⟨s0, n, h1, h2, rfl⟩ := chkTo_inv h
    rw [linesTo_succ, chk_lines hK h1, hK _ _ _ h2]
    rfl

theorem chkR_ok {xs : List Item} {d tol n : Int} {bs : List Int} (h : chkR xs d tol bs = (n, true)) : okB xs d tol = true ∧ 0 < bs.length ∧ frm bs bs.length = (xs.length : Int) - 1 ∧ chkTo (kB xs d tol) bs bs.length = some n := by
  unfold chkR at h
  split at h
  · rename_i hc
    simp only [Bool.and_eq_true, decide_eq_true_eq] at hc
    split at h
    · rename_i s hs
      simp only [Prod.mk.injEq, and_true] at h
      subst h
      exact ⟨hc.1.1, hc.1.2, hc.2, hs⟩
    · simp at h
  · simp at h

theorem chkR_of {xs : List Item} {d tol n : Int} {bs : List Int} (h1 : okB xs d tol = true) (h2 : 0 < bs.length) (h3 : frm bs bs.length = (xs.length : Int) - 1) (h4 : chkTo (kB xs d tol) bs bs.length = some n) : chkR xs d tol bs = (n, true) := by
  unfold chkR
  rw [if_pos (by simp [h1, h2, h3]), h4]

theorem okB_iff {xs : List Item} {d tol : Int} : okB xs d tol = true ↔ vItems xs = true ∧ inR d 1 10000 = true ∧ inR tol 0 10000 = true := by simp [okB, and_assoc]

theorem bestR_ok {xs : List Item} {d tol n : Int} {L : List Int} (h : bestR xs d tol = (L, n, true)) : okB xs d tol = true ∧ ∃ f, ent (kB xs d tol) (xs.length - 1) = some (n, f) ∧ L = pth (kB xs d tol) xs.length ((xs.length : Int) - 1) := by
  unfold bestR at h
  split at h
  · rename_i hc
    split at h
    · rename_i c f he
      simp only [Prod.mk.injEq, and_true] at h
      exact ⟨hc, f, by rw [he, h.2], h.1.symm⟩
    · simp at h
  · simp at h

/-- The best breaks are checked. -/
theorem best_chk {xs : List Item} {d tol n : Int} {L : List Int} (h : bestR xs d tol = (L, n, true)) : chkR xs d tol L = (n, true) ∧ vBreaks xs L = true := by
  obtain ⟨h1, f, h2, rfl⟩ := bestR_ok h
  have hv := (okB_iff.1 h1).1
  have hl := (vItems_iff.1 hv).2.1
  have hp := pth_ok (xs.length - 1) xs.length n f h2 (by omega)
  rw [show ((xs.length - 1 : Nat) : Int) = (xs.length : Int) - 1 by omega] at hp
  refine ⟨chkR_of h1 hp.2.2 hp.2.1 hp.1, ?_⟩
  simp only [vBreaks, hv, chk_lines (fun _ _ _ h => (kB_some h).1) hp.1, hp.2.1, Bool.and_self, decide_true]

/-- No breaks are better. -/
theorem best_opt {xs : List Item} {d tol n : Int} {bs : List Int} (h : chkR xs d tol bs = (n, true)) : ∃ L c, bestR xs d tol = (L, c, true) ∧ c ≤ n := by
  obtain ⟨h1, h2, h3, h4⟩ := chkR_ok h
  have hv := (okB_iff.1 h1).1
  have hl := (vItems_iff.1 hv).2.1
  obtain ⟨k, hk⟩ : ∃ k, bs.length = k + 1 := ⟨bs.length - 1, by omega⟩
  rw [hk] at h4 h3
  obtain ⟨c, g, e, hle⟩ := ent_opt (fun f t n h => kB_inc h) k n h4
  rw [h3, show ((xs.length : Int) - 1).toNat = xs.length - 1 by omega] at e
  refine ⟨pth (kB xs d tol) xs.length ((xs.length : Int) - 1), c, ?_, hle⟩
  rw [bestR, if_pos h1, e]

theorem kB_tol {xs : List Item} {d tol f t n : Int} (hv : vItems xs = true) (hd : inR d 1 10000 = true) (h : kB xs d tol f t = some n) : kB xs d 10000 f t = some n := by
  obtain ⟨h1, h2⟩ := kB_some h
  have hb := (fitLn_bd (f := f) (t := t) hv hd).2.2
  unfold lnCost at h2
  split at h2
  · simp at h2
  · rename_i hn
    have : lnCost xs f t d 10000 = (n, true) := by
      unfold lnCost
      rw [if_neg (by rintro (h | h); exact hn (.inl h); omega)]
      exact h2
    simp [kB, h1, this]

theorem best_tol {xs : List Item} {d tol n : Int} {L : List Int} (h : bestR xs d tol = (L, n, true)) : ∃ L2 c, bestR xs d 10000 = (L2, c, true) ∧ c ≤ n := by
  obtain ⟨hc, _⟩ := best_chk h
  obtain ⟨h1, h2, h3, h4⟩ := chkR_ok hc
  obtain ⟨hv, hd, ht⟩ := okB_iff.1 h1
  exact best_opt (chkR_of (okB_iff.2 ⟨hv, hd, by decide⟩) h2 h3 (chkTo_mono (fun f t n h => kB_tol hv hd h) h4))

theorem chkL_len {xs : List Item} {d tol : Int} {bs : List Int} : ∀ {i : Nat} {s : Int}, chkTo (kL xs d tol) bs i = some s → s = i
  | 0, s, h => by simp only [chkTo, Option.some.injEq] at h; omega
  | i + 1, s, h => by
    obtain ⟨s0, n, h1, h2, rfl⟩ := chkTo_inv h
    have := chkL_len h1
    have := (kL_some h2).1
    omega

/-- The least number of lines is the number of lines of some breaks. -/
theorem least_ok {xs : List Item} {d tol : Int} (h : leastR xs d tol ≠ 0) : ∃ L, vBreaks xs L = true ∧ leastR xs d tol = L.length := by
  unfold leastR at h ⊢
  split at h
  · rename_i hc
    split at h
    · rename_i c f he
      have hv := (okB_iff.1 hc).1
      have hl := (vItems_iff.1 hv).2.1
      have hp := pth_ok (xs.length - 1) xs.length c f he (by omega)
      rw [show ((xs.length - 1 : Nat) : Int) = (xs.length : Int) - 1 by omega] at hp
      refine ⟨pth (kL xs d tol) xs.length ((xs.length : Int) - 1), ?_, ?_⟩
      · simp only [vBreaks, hv, chk_lines (fun _ _ _ h => by obtain ⟨_, m, hm⟩ := kL_some h; exact (kB_some hm).1) hp.1, hp.2.1, Bool.and_self, decide_true]
      · simp only [hc, he, if_true]
        exact chkL_len hp.1
    · exact absurd rfl h
  · exact absurd rfl h

theorem ent_kL_pos {xs : List Item} {d tol : Int} : ∀ (t : Nat) (c f : Int), ent (kL xs d tol) t = some (c, f) → 1 ≤ c ∧ c ≤ (t : Int) + 1 := by
  intro t
  induction t using Nat.strongRecOn with
  | _ t ih =>
    intro c f h
    obtain ⟨h1, h2, c0, n, h3, h4, h5⟩ := ent_ok h
    have hn := (kL_some h4).1
    by_cases hf : f = -1
    · subst hf
      simp only [pc, if_true, Option.some.injEq] at h3
      omega
    · simp only [pc, if_neg hf] at h3
      obtain ⟨p, hp, rfl⟩ := Option.map_eq_some_iff.1 h3
      have := ih f.toNat (by omega) p.1 p.2 hp
      omega

theorem least_le {xs : List Item} {d tol n : Int} {bs : List Int} (h1 : okB xs d tol = true) (h2 : 0 < bs.length) (h3 : frm bs bs.length = (xs.length : Int) - 1) (h4 : chkTo (kL xs d tol) bs bs.length = some n) : leastR xs d tol ≠ 0 ∧ leastR xs d tol ≤ bs.length := by
  have hv := (okB_iff.1 h1).1
  have hl := (vItems_iff.1 hv).2.1
  have hn := chkL_len h4
  obtain ⟨k, hk⟩ : ∃ k, bs.length = k + 1 := ⟨bs.length - 1, by omega⟩
  rw [hk] at h4 h3 hn
  obtain ⟨c, g, e, hle⟩ := ent_opt (fun f t n h => kL_inc h) k n h4
  rw [h3, show ((xs.length : Int) - 1).toNat = xs.length - 1 by omega] at e
  have hp := ent_kL_pos _ _ _ e
  unfold leastR
  rw [if_pos h1, e]
  simp only
  omega

end Go.Proofs.Ytfegjohodlapeaa
