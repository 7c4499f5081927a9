/- The cheapest way over stops: places in the list of stops. No program in sight. -/
import Derived.Test.YtfegjohodlapeaaPlnC
namespace Go.Proofs.Ytfegjohodlapeaa
open Go.RowKit
set_option linter.unusedVariables false
set_option linter.unusedSimpArgs false

/-- The stops: the beginning and the breaks. -/
def stops (xs : List Item) : List Int := (-1) :: breaksOf xs

/-- An entry by places, as an entry by breaks. -/
def byB (S : List Int) (o : Ent) : Ent := o.map fun p => (p.1, S.getD p.2.toNat 0)

section
variable {K : Int → Int → Option Int}

theorem entTo_skip {T : List Ent} {t : Int} : ∀ (m n : Nat), n ≤ m → (∀ i : Nat, n ≤ i → i < m → K ((i : Int) - 1) t = none) → entTo K T t m = entTo K T t n
  | 0, n, h, _ => by rw [show n = 0 by omega]
  | m + 1, n, h, hk => by
    by_cases he : n = m + 1
    · rw [he]
    · rw [entTo_succ, entTo_skip m n (by omega) (fun i h1 h2 => hk i h1 (by omega))]
      unfold entStep
      rw [hk m (by omega) (by omega)]
      split
      · rename_i h; cases h
      · rfl
end

theorem stops_asc {xs : List Item} {i j : Nat} {a b : Int} (hv : vItems xs = true) (h : (stops xs)[i]? = some a) (k : (stops xs)[j]? = some b) (hlt : i < j) : a < b := by
  obtain ⟨j', rfl⟩ : ∃ j', j = j' + 1 := ⟨j - 1, by omega⟩
  simp only [stops, List.getElem?_cons_succ, breaksOf, if_pos hv] at k
  cases i with
  | zero =>
    simp only [stops, List.getElem?_cons_zero, Option.some.injEq] at h
    obtain ⟨q, _, _, rfl⟩ := mem_selTo.1 (List.mem_of_getElem? k)
    omega
  | succ i' =>
    simp only [stops, List.getElem?_cons_succ, breaksOf, if_pos hv] at h
    exact selTo_asc _ i' j' a b h k (by omega)

theorem stops_ge {xs : List Item} {i : Nat} {a : Int} (hv : vItems xs = true) (h : (stops xs)[i]? = some a) : -1 ≤ a ∧ a < xs.length ∧ (0 < i → 0 ≤ a ∧ brk xs a = true) := by
  cases i with
  | zero =>
    simp only [stops, List.getElem?_cons_zero, Option.some.injEq] at h
    have := (vItems_iff.1 hv).2.1
    omega
  | succ i =>
    simp only [stops, List.getElem?_cons_succ, breaksOf, if_pos hv] at h
    obtain ⟨q, hq, hb, rfl⟩ := mem_selTo.1 (List.mem_of_getElem? h)
    exact ⟨by omega, by omega, fun _ => ⟨by omega, by simpa [brk] using hb⟩⟩

theorem stops_mem {xs : List Item} {f : Int} (hv : vItems xs = true) (h : f = -1 ∨ brk xs f = true) : ∃ i : Nat, (stops xs)[i]? = some f := by
  rcases h with rfl | h
  · exact ⟨0, rfl⟩
  · obtain ⟨h1, h2, h3⟩ := brk_iff.1 h
    have : f ∈ breaksOf xs := by
      rw [breaksOf, if_pos hv]
      exact mem_selTo.2 ⟨f.toNat, by omega, h3, by omega⟩
    obtain ⟨i, hi⟩ := List.mem_iff_getElem?.1 this
    exact ⟨i + 1, by simpa [stops] using hi⟩

theorem stops_last {xs : List Item} (hv : vItems xs = true) : (stops xs)[(stops xs).length - 1]? = some ((xs.length : Int) - 1) ∧ 1 ≤ (breaksOf xs).length := by
  obtain ⟨_, h1, _, x, hx, hf⟩ := vItems_iff.1 hv
  have := selTo_last h1 (brkN_forced hx hf)
  rw [List.getLast?_eq_getElem?] at this
  have hl := (List.getElem?_eq_some_iff.1 this).1
  have e : breaksOf xs = selTo (brkN xs) xs.length := by rw [breaksOf, if_pos hv]
  rw [← e] at this hl
  refine ⟨?_, by omega⟩
  simp only [stops, List.length_cons]
  rw [show (breaksOf xs).length + 1 - 1 = ((breaksOf xs).length - 1) + 1 by omega, List.getElem?_cons_succ]
  exact this

/-- Costs that only lines have. -/
def LineK (xs : List Item) (K : Int → Int → Option Int) : Prop := ∀ f t n, K f t = some n → lineOk xs f t = true

theorem kB_line {xs : List Item} {d tol : Int} : LineK xs (kB xs d tol) := fun f t n h => (kB_some h).1
theorem kL_line {xs : List Item} {d tol : Int} : LineK xs (kL xs d tol) := fun f t n h => by obtain ⟨_, m, hm⟩ := kL_some h; exact (kB_some hm).1

/-- From one stop to the next nothing happens between them. -/
theorem entTo_next {xs : List Item} {K : Int → Int → Option Int} (hK : LineK xs K) (hv : vItems xs = true) {T : List Ent} {t a b : Int} {j : Nat} (ha : (stops xs)[j]? = some a) (hb : (stops xs)[j + 1]? = some b) : entTo K T t (b + 1).toNat = entStep K T t (entTo K T t (a + 1).toNat) a := by
  obtain ⟨a1, a2, _⟩ := stops_ge hv ha
  have hab := stops_asc hv ha hb (by omega)
  rw [← entTo_succT a1]
  refine entTo_skip _ _ (by omega) (fun i h1 h2 => ?_)
  cases hk : K ((i : Int) - 1) t with
  | none => rfl
  | some n =>
    exfalso
    have hl := lineOk_iff.1 (hK _ _ _ hk)
    obtain ⟨q, hq⟩ := stops_mem hv hl.2.2.2.1
    rcases Nat.lt_trichotomy q (j + 1) with h3 | h3 | h3
    · rcases Nat.lt_or_ge q j with h4 | h4
      · have := stops_asc hv hq ha h4; omega
      · have : q = j := by omega
        subst this
        rw [ha] at hq
        cases hq
        omega
    · subst h3
      rw [hb] at hq
      cases hq
      omega
    · have := stops_asc hv hb hq h3; omega

theorem byB_cost {S : List Int} {o : Ent} : (byB S o).map (·.1) = o.map (·.1) := by cases o <;> rfl
theorem byB_none {S : List Int} {o : Ent} : byB S o = none ↔ o = none := by cases o <;> simp [byB]

/-- What a table of places holds, up to a stop. -/
structure Fin (xs : List Item) (K : Int → Int → Option Int) (E : List Ent) (k : Nat) : Prop where
  len : E.length = (stops xs).length
  zero : E[0]? = some (some (0, 0))
  done : ∀ i : Nat, 1 ≤ i → i < k → ∃ o s, (stops xs)[i]? = some s ∧ E[i]? = some o ∧ byB (stops xs) o = ent K s.toNat ∧ ∀ c q, o = some (c, q) → 0 ≤ q ∧ q < i

theorem Fin.set {xs : List Item} {K : Int → Int → Option Int} {E : List Ent} {k : Nat} (h : Fin xs K E k) (hk : 1 ≤ k) (o : Ent) : Fin xs K (E.set k o) k :=
  ⟨by rw [List.length_set]; exact h.len, by rw [List.getElem?_set_ne (by omega)]; exact h.zero, fun i h1 h2 => by rw [List.getElem?_set_ne (by omega)]; exact h.done i h1 h2⟩

theorem Fin.succ {xs : List Item} {K : Int → Int → Option Int} {E : List Ent} {k : Nat} {o : Ent} {s : Int} (h : Fin xs K E k) (hs : (stops xs)[k]? = some s) (ho : E[k]? = some o) (he : byB (stops xs) o = ent K s.toNat) (hq : ∀ c q, o = some (c, q) → 0 ≤ q ∧ q < k) : Fin xs K E (k + 1) :=
  ⟨h.len, h.zero, fun i h1 h2 => by
    by_cases hi : i < k
    · exact h.done i h1 hi
    · have : i = k := by omega
      subst this
      exact ⟨o, s, hs, ho, he, hq⟩⟩

/-- The cost up to a stop, as the table of places has it. -/
theorem Fin.prev {xs : List Item} {K : Int → Int → Option Int} {E : List Ent} {k j : Nat} {s : Int} {o : Ent} (hv : vItems xs = true) (h : Fin xs K E k) (hj : j < k) (hs : (stops xs)[j]? = some s) (ho : E[j]? = some o) : pc K s = o.map (·.1) := by
  cases j with
  | zero =>
    simp only [stops, List.getElem?_cons_zero, Option.some.injEq] at hs
    subst hs
    rw [h.zero] at ho
    cases ho
    rfl
  | succ j =>
    obtain ⟨o2, s2, h1, h2, h3, _⟩ := h.done (j + 1) (by omega) hj
    rw [hs] at h1
    rw [ho] at h2
    cases h1
    cases h2
    have := (stops_ge hv hs).2.2 (by omega)
    unfold pc
    rw [if_neg (by omega), ← h3, byB_cost]

def bpR (K : Int → Int → Option Int) (xs : List Item) : List Int × Int × Bool :=
  match ent K (xs.length - 1) with
  | some (c, _) => (pth K xs.length ((xs.length : Int) - 1), c, true)
  | none => ([], 0, false)

theorem bestR_bp {xs : List Item} {d tol : Int} (h : okB xs d tol = true) : bestR xs d tol = bpR (kB xs d tol) xs := by
  rw [bestR, if_pos h]; rfl

end Go.Proofs.Ytfegjohodlapeaa
