/- The values between the letters of a word and the places at which it may be divided. No program in sight. -/
import Derived.Test.YtdenlafdbfbkoaaPlnH
namespace Go.Proofs.Ytdenlafdbfbkoaa
open Go.RowKit
set_option linter.unusedVariables false
set_option linter.unusedSimpArgs false

def putGo : List Int → Nat → List Int → List Int
  | pl, _, [] => pl
  | pl, k, v :: vs => putGo (pl.set k (max (pl.getD k 0) v)) (k + 1) vs

def isAt (t : List UInt8) (k : Nat) (cs : List UInt8) : Bool := decide ((t.drop k).take cs.length = cs)

def atsGo (t cs : List UInt8) (vs : List Int) : Nat → Nat → List Int → List Int
  | 0, _, pl => pl
  | n + 1, k, pl => atsGo t cs vs n (k + 1) (if isAt t k cs then putGo pl k vs else pl)

def hvAll (t : List UInt8) : List (List UInt8) → List Int → List Int
  | [], pl => pl
  | s :: ss, pl => hvAll t ss (atsGo t (pChars s) (pVals s) t.length 0 pl)

def patsOk (ls : List (List UInt8)) : Bool := ls.all pOk && decide (ls.length ≤ 20)

def dotted (l : List UInt8) : List UInt8 := 46 :: l ++ [46]

def hvRaw (ls : List (List UInt8)) (l : List UInt8) : List Int := hvAll (dotted l) ls (List.replicate (l.length + 3) 0)

def hvCut (ls : List (List UInt8)) (l : List UInt8) : List Int := ((hvRaw ls l).take (l.length + 1)).drop 2

def hvR (ls : List (List UInt8)) (l : List UInt8) : List Int := if wordOk l && patsOk ls then hvCut ls l else []

def hpGo (n : Nat) : Nat → List Int → List Int
  | _, [] => []
  | k, v :: vs => if v % 2 = 1 ∧ 2 ≤ k ∧ k + 2 ≤ n then (k : Int) :: hpGo n (k + 1) vs else hpGo n (k + 1) vs

def hpR (ls : List (List UInt8)) (l : List UInt8) : List Int := hpGo l.length 1 (hvR ls l)

theorem dotted_len (l : List UInt8) : (dotted l).length = l.length + 2 := by simp [dotted]

theorem putGo_len : ∀ (vs pl : List Int) (k : Nat), (putGo pl k vs).length = pl.length
  | [], pl, k => rfl
  | v :: vs, pl, k => by rw [putGo, putGo_len vs]; simp

theorem putGo_step {pl vs : List Int} {k i : Nat} {v : Int} (h : vs[i]? = some v) : putGo pl k (vs.drop i) = putGo (pl.set k (max (pl.getD k 0) v)) (k + 1) (vs.drop (i + 1)) := by
  have hl := (List.getElem?_eq_some_iff.1 h).1
  have e : vs.drop i = v :: vs.drop (i + 1) := by
    rw [List.drop_eq_getElem_cons hl]
    congr 1
    exact (List.getElem?_eq_some_iff.1 h).2
  rw [e, putGo]

theorem putGo_nil {pl vs : List Int} {k i : Nat} (h : vs.length ≤ i) : putGo pl k (vs.drop i) = pl := by
  rw [List.drop_eq_nil_of_le h, putGo]

theorem atsGo_len {t cs : List UInt8} {vs : List Int} : ∀ (n k : Nat) (pl : List Int), (atsGo t cs vs n k pl).length = pl.length
  | 0, k, pl => rfl
  | n + 1, k, pl => by rw [atsGo, atsGo_len n]; split <;> simp [putGo_len]

theorem hvAll_len {t : List UInt8} : ∀ (ls : List (List UInt8)) (pl : List Int), (hvAll t ls pl).length = pl.length
  | [], pl => rfl
  | s :: ss, pl => by rw [hvAll, hvAll_len ss, atsGo_len]

theorem isAt_far {t cs : List UInt8} {k : Nat} (h : t.length < k + cs.length) (h1 : 1 ≤ cs.length) : isAt t k cs = false := by
  rw [isAt, decide_eq_false_iff_not]
  intro e
  have := congrArg List.length e
  simp at this
  omega

theorem atsGo_far {t cs : List UInt8} {vs : List Int} (h1 : 1 ≤ cs.length) : ∀ (n k : Nat) (pl : List Int), t.length < k + cs.length → atsGo t cs vs n k pl = pl
  | 0, k, pl, h => rfl
  | n + 1, k, pl, h => by rw [atsGo, isAt_far h h1, if_neg (by simp), atsGo_far h1 n _ _ (by omega)]

theorem atsGo_yes {t cs : List UInt8} {vs pl : List Int} {n k : Nat} (hk : k < n) (h : isAt t k cs = true) : atsGo t cs vs (n - k) k pl = atsGo t cs vs (n - (k + 1)) (k + 1) (putGo pl k vs) := by
  rw [show n - k = n - (k + 1) + 1 by omega, atsGo, if_pos h]

theorem atsGo_no {t cs : List UInt8} {vs pl : List Int} {n k : Nat} (hk : k < n) (h : isAt t k cs = false) : atsGo t cs vs (n - k) k pl = atsGo t cs vs (n - (k + 1)) (k + 1) pl := by
  rw [show n - k = n - (k + 1) + 1 by omega, atsGo, if_neg (by simp [h])]

theorem atsGo_end {t cs : List UInt8} {vs pl : List Int} {n k : Nat} (hk : n ≤ k) : atsGo t cs vs (n - k) k pl = pl := by
  rw [show n - k = 0 by omega, atsGo]

theorem hvAll_step {t : List UInt8} {ls : List (List UInt8)} {i : Nat} {s : List UInt8} {pl : List Int} (h : ls[i]? = some s) : hvAll t (ls.drop i) pl = hvAll t (ls.drop (i + 1)) (atsGo t (pChars s) (pVals s) t.length 0 pl) := by
  have hl := (List.getElem?_eq_some_iff.1 h).1
  have e : ls.drop i = s :: ls.drop (i + 1) := by
    rw [List.drop_eq_getElem_cons hl]
    congr 1
    exact (List.getElem?_eq_some_iff.1 h).2
  rw [e, hvAll]

theorem hvAll_end {t : List UInt8} {ls : List (List UInt8)} {i : Nat} {pl : List Int} (h : ls.length ≤ i) : hvAll t (ls.drop i) pl = pl := by
  rw [List.drop_eq_nil_of_le h, hvAll]

theorem hvRaw_len (ls : List (List UInt8)) (l : List UInt8) : (hvRaw ls l).length = l.length + 3 := by
  simp [hvRaw, hvAll_len]

theorem hvCut_len {ls : List (List UInt8)} {l : List UInt8} : (hvCut ls l).length = l.length - 1 := by
  simp [hvCut, hvRaw_len]

theorem hvR_good {ls : List (List UInt8)} {l : List UInt8} (h1 : wordOk l = true) (h2 : patsOk ls = true) : hvR ls l = hvCut ls l := by simp [hvR, h1, h2]

theorem hvR_bad1 {ls : List (List UInt8)} {l : List UInt8} (h1 : wordOk l = false) : hvR ls l = [] := by simp [hvR, h1]

theorem hvR_bad2 {ls : List (List UInt8)} {l : List UInt8} (h1 : patsOk ls = false) : hvR ls l = [] := by simp [hvR, h1]

theorem hvR_len (ls : List (List UInt8)) (l : List UInt8) : (hvR ls l).length ≤ 20 := by
  cases h1 : wordOk l
  · simp [hvR_bad1 h1]
  · cases h2 : patsOk ls
    · simp [hvR_bad2 h2]
    · rw [hvR_good h1 h2, hvCut_len]
      have := (word_iff.1 h1).2
      omega

theorem hpGo_len {n : Nat} : ∀ (vs : List Int) (k : Nat), (hpGo n k vs).length ≤ vs.length
  | [], k => by simp [hpGo]
  | v :: vs, k => by
    rw [hpGo]
    have := hpGo_len (n := n) vs (k + 1)
    split <;> simp <;> omega

theorem hpR_len (ls : List (List UInt8)) (l : List UInt8) : (hpR ls l).length ≤ 20 := Nat.le_trans (hpGo_len _ _) (hvR_len ls l)

theorem drop_cons_of {vs : List Int} {i : Nat} {v : Int} (h : vs[i]? = some v) : vs.drop i = v :: vs.drop (i + 1) := by
  have hl := (List.getElem?_eq_some_iff.1 h).1
  rw [List.drop_eq_getElem_cons hl]
  congr 1
  exact (List.getElem?_eq_some_iff.1 h).2

theorem hpGo_yes {n i k : Nat} {vs : List Int} {v : Int} (h : vs[i]? = some v) (h1 : v % 2 = 1) (h2 : 2 ≤ k) (h3 : k + 2 ≤ n) : hpGo n k (vs.drop i) = (k : Int) :: hpGo n (k + 1) (vs.drop (i + 1)) := by
  rw [drop_cons_of h, hpGo, if_pos ⟨h1, h2, h3⟩]

theorem hpGo_no {n i k : Nat} {vs : List Int} {v : Int} (h : vs[i]? = some v) (h1 : ¬ (v % 2 = 1 ∧ 2 ≤ k ∧ k + 2 ≤ n)) : hpGo n k (vs.drop i) = hpGo n (k + 1) (vs.drop (i + 1)) := by
  rw [drop_cons_of h, hpGo, if_neg h1]

theorem hpGo_far {n : Nat} : ∀ (vs : List Int) (k : Nat), n < k + 2 → hpGo n k vs = []
  | [], k, h => rfl
  | v :: vs, k, h => by rw [hpGo, if_neg (by omega), hpGo_far vs _ (by omega)]

theorem hpGo_end {n i k : Nat} {vs : List Int} (h : vs.length ≤ i) : hpGo n k (vs.drop i) = [] := by
  rw [List.drop_eq_nil_of_le h, hpGo]

/-- The spec's loop begins at the second place. -/
theorem hpGo_two {n : Nat} (vs : List Int) : hpGo n 1 vs = hpGo n 2 (vs.drop 1) := by
  cases vs with
  | nil => rfl
  | cons v vs => rw [hpGo, if_neg (by omega)]; rfl

theorem patsOk_iff {ls : List (List UInt8)} : patsOk ls = true ↔ (∀ s ∈ ls, pOk s = true) ∧ ls.length ≤ 20 := by
  simp [patsOk, List.all_eq_true]

theorem pats_bad {ls : List (List UInt8)} {i : Nat} {s : List UInt8} (hu : ls[i]? = some s) (h : pOk s = false) : patsOk ls = false := by
  cases hw : patsOk ls
  · rfl
  · have := (patsOk_iff.1 hw).1 s (List.mem_of_getElem? hu)
    rw [h] at this
    cases this

theorem pats_long {ls : List (List UInt8)} (h : 20 < ls.length) : patsOk ls = false := by
  cases hw : patsOk ls
  · rfl
  · have := (patsOk_iff.1 hw).2
    omega

/-! ### The values: none negative, and not less with more patterns -/
theorem putGo_ge : ∀ (vs pl : List Int) (k i : Nat), pl.getD i 0 ≤ (putGo pl k vs).getD i 0
  | [], pl, k, i => Int.le_refl _
  | v :: vs, pl, k, i => by
    rw [putGo]
    refine Int.le_trans ?_ (putGo_ge vs _ _ i)
    by_cases h : i = k
    · subst h
      by_cases hl : i < pl.length
      · simp [List.getD, hl]; omega
      · simp [List.getD, hl]
    · simp only [List.getD]
      rw [List.getElem?_set_ne (fun e => h e.symm)]
      exact Int.le_refl _

theorem atsGo_ge {t cs : List UInt8} {vs : List Int} : ∀ (n k : Nat) (pl : List Int) (i : Nat), pl.getD i 0 ≤ (atsGo t cs vs n k pl).getD i 0
  | 0, k, pl, i => Int.le_refl _
  | n + 1, k, pl, i => by
    rw [atsGo]
    refine Int.le_trans ?_ (atsGo_ge n _ _ i)
    split
    · exact putGo_ge _ _ _ _
    · exact Int.le_refl _

theorem hvAll_ge {t : List UInt8} : ∀ (ls : List (List UInt8)) (pl : List Int) (i : Nat), pl.getD i 0 ≤ (hvAll t ls pl).getD i 0
  | [], pl, i => Int.le_refl _
  | s :: ss, pl, i => by
    rw [hvAll]
    exact Int.le_trans (atsGo_ge _ _ _ i) (hvAll_ge ss _ i)

theorem hvAll_app {t : List UInt8} : ∀ (ls ms : List (List UInt8)) (pl : List Int), hvAll t (ls ++ ms) pl = hvAll t ms (hvAll t ls pl)
  | [], ms, pl => rfl
  | s :: ss, ms, pl => by rw [List.cons_append, hvAll, hvAll, hvAll_app ss]

theorem hvCut_getD {ls : List (List UInt8)} {l : List UInt8} {i : Nat} (h : i < l.length - 1) : (hvCut ls l).getD i 0 = (hvRaw ls l).getD (i + 2) 0 := by
  unfold hvCut
  simp only [List.getD, List.getElem?_drop, List.getElem?_take]
  rw [if_pos (by omega), Nat.add_comm]

theorem hvRaw_nonneg (ls : List (List UInt8)) (l : List UInt8) (i : Nat) : 0 ≤ (hvRaw ls l).getD i 0 := by
  refine Int.le_trans ?_ (hvAll_ge ls _ i)
  simp only [List.getD, List.getElem?_replicate]
  split <;> simp

theorem hvCut_nonneg {ls : List (List UInt8)} {l : List UInt8} {v : Int} (h : v ∈ hvCut ls l) : 0 ≤ v := by
  obtain ⟨i, hi, rfl⟩ := List.mem_iff_getElem.1 h
  have := hvRaw_nonneg ls l (i + 2)
  rw [← hvCut_getD (by rw [hvCut_len] at hi; exact hi)] at this
  simpa [List.getD, hi] using this

theorem hvR_nonneg {ls : List (List UInt8)} {l : List UInt8} {v : Int} (h : v ∈ hvR ls l) : 0 ≤ v := by
  unfold hvR at h
  split at h
  · exact hvCut_nonneg h
  · cases h

/-- More patterns, larger values. -/
theorem hvCut_mono (ls : List (List UInt8)) (l : List UInt8) (m i : Nat) (h : i < l.length - 1) : (hvCut (ls.take m) l).getD i 0 ≤ (hvCut ls l).getD i 0 := by
  rw [hvCut_getD h, hvCut_getD h]
  have : hvRaw ls l = hvAll (dotted l) (ls.drop m) (hvRaw (ls.take m) l) := by
    unfold hvRaw
    rw [← hvAll_app, List.take_append_drop]
  rw [this]
  exact hvAll_ge _ _ _

theorem patsOk_take {ls : List (List UInt8)} {m : Nat} (h : patsOk ls = true) : patsOk (ls.take m) = true := by
  obtain ⟨h1, h2⟩ := patsOk_iff.1 h
  refine patsOk_iff.2 ⟨fun s hs => h1 s (List.mem_of_mem_take hs), ?_⟩
  rw [List.length_take]
  omega

end Go.Proofs.Ytdenlafdbfbkoaa
