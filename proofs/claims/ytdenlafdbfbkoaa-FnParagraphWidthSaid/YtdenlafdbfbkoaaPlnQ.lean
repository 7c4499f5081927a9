/- The items of a paragraph of words. No program in sight. -/
import Derived.Test.YtdenlafdbfbkoaaPlnG
import Derived.Test.YtdenlafdbfbkoaaPlnK
import Derived.Test.YtdenlafdbfbkoaaPln
namespace Go.Proofs.Ytdenlafdbfbkoaa
open Go.RowKit
set_option linter.unusedVariables false
set_option linter.unusedSimpArgs false

def boxI (n : Int) : Item := ⟨1, ⟨n, 0, 0⟩, 0, false⟩
def hypI (f : Fnt) : Item := ⟨3, ⟨f.hy, 0, 0⟩, 50, true⟩
def gluI (f : Fnt) : Item := ⟨2, f.sp, 0, false⟩
noncomputable def partsI (f : Fnt) : Nat → List (List UInt8) → List Item
  | _, [] => []
  | k, p :: ps => (if 0 < k then [hypI f] else []) ++ boxI (wwR f p) :: partsI f (k + 1) ps
noncomputable def wordI (f : Fnt) (ls : List (List UInt8)) (l : List UInt8) : List Item := partsI f 0 (splitR l (hpR ls l))
noncomputable def wordsI (f : Fnt) (ls : List (List UInt8)) : Nat → List (List UInt8) → List Item
  | _, [] => []
  | i, l :: r => (if 0 < i then [gluI f] else []) ++ wordI f ls l ++ wordsI f ls (i + 1) r
def end1 : Item := ⟨3, ⟨0, 0, 0⟩, 1000, false⟩
def end2 : Item := ⟨2, ⟨0, 1000, 0⟩, 0, false⟩
def end3 : Item := ⟨3, ⟨0, 0, 0⟩, -1000, false⟩
noncomputable def paraI (f : Fnt) (ls ws : List (List UInt8)) : List Item := wordsI f ls 0 ws ++ [end1, end2, end3]
noncomputable def bpOk (f : Fnt) (ls ws : List (List UInt8)) : Bool := fontOk f && patsOk ls && inR ws.length 1 60 && ws.all wordOk && vItems (paraI f ls ws)
noncomputable def bpR (f : Fnt) (ls ws : List (List UInt8)) : List Item := if bpOk f ls ws then paraI f ls ws else []

theorem bpR_good {f : Fnt} {ls ws : List (List UInt8)} (h : bpOk f ls ws = true) : bpR f ls ws = paraI f ls ws := by simp [bpR, h]
theorem bpR_bad {f : Fnt} {ls ws : List (List UInt8)} (h : bpOk f ls ws = false) : bpR f ls ws = [] := by simp [bpR, h]
theorem bp1 {f : Fnt} {ls ws : List (List UInt8)} (h : fontOk f = false) : bpOk f ls ws = false := by simp [bpOk, h]
theorem bp2 {f : Fnt} {ls ws : List (List UInt8)} (h : patsOk ls = false) : bpOk f ls ws = false := by simp [bpOk, h]
theorem bp3 {f : Fnt} {ls ws : List (List UInt8)} (h : inR ws.length 1 60 = false) : bpOk f ls ws = false := by simp [bpOk, h]
theorem bp4 {f : Fnt} {ls ws : List (List UInt8)} {i : Nat} {u : List UInt8} (hu : ws[i]? = some u) (h : wordOk u = false) : bpOk f ls ws = false := by
  have : ws.all wordOk = false := by rw [List.all_eq_false]; exact ⟨u, List.mem_of_getElem? hu, by simp [h]⟩
  simp [bpOk, this]
theorem bp5 {f : Fnt} {ls ws : List (List UInt8)} (h : vItems (paraI f ls ws) = false) : bpOk f ls ws = false := by simp [bpOk, h]
theorem bp_ok {f : Fnt} {ls ws : List (List UInt8)} (h1 : fontOk f = true) (h2 : patsOk ls = true) (h3 : inR ws.length 1 60 = true) (h4 : ∀ u ∈ ws, wordOk u = true) (h5 : vItems (paraI f ls ws) = true) : bpOk f ls ws = true := by
  simp [bpOk, h1, h2, h3, h5]
  exact h4

theorem partsI_step {f : Fnt} {ps : List (List UInt8)} {k : Nat} {p : List UInt8} (h : ps[k]? = some p) : partsI f k (ps.drop k) = (if 0 < k then [hypI f] else []) ++ boxI (wwR f p) :: partsI f (k + 1) (ps.drop (k + 1)) := by
  have hl := (List.getElem?_eq_some_iff.1 h).1
  have e : ps.drop k = p :: ps.drop (k + 1) := by
    rw [List.drop_eq_getElem_cons hl]
    congr 1
    exact (List.getElem?_eq_some_iff.1 h).2
  rw [e, partsI]
theorem partsI_end {f : Fnt} {ps : List (List UInt8)} {k : Nat} (h : ps.length ≤ k) : partsI f k (ps.drop k) = [] := by
  rw [List.drop_eq_nil_of_le h, partsI]
theorem wordsI_step {f : Fnt} {ls ws : List (List UInt8)} {i : Nat} {l : List UInt8} (h : ws[i]? = some l) : wordsI f ls i (ws.drop i) = (if 0 < i then [gluI f] else []) ++ wordI f ls l ++ wordsI f ls (i + 1) (ws.drop (i + 1)) := by
  have hl := (List.getElem?_eq_some_iff.1 h).1
  have e : ws.drop i = l :: ws.drop (i + 1) := by
    rw [List.drop_eq_getElem_cons hl]
    congr 1
    exact (List.getElem?_eq_some_iff.1 h).2
  rw [e, wordsI]
theorem wordsI_end {f : Fnt} {ls ws : List (List UInt8)} {i : Nat} (h : ws.length ≤ i) : wordsI f ls i (ws.drop i) = [] := by
  rw [List.drop_eq_nil_of_le h, wordsI]

theorem partsI_len {f : Fnt} : ∀ (ps : List (List UInt8)) (k : Nat), (partsI f k ps).length ≤ 2 * ps.length
  | [], k => by simp [partsI]
  | p :: ps, k => by
    rw [partsI]
    have := partsI_len (f := f) ps (k + 1)
    split <;> simp <;> omega
theorem wordI_len (f : Fnt) (ls : List (List UInt8)) (l : List UInt8) : (wordI f ls l).length ≤ 120 := by
  have := partsI_len (f := f) (splitR l (hpR ls l)) 0
  have := splitR_len l (hpR ls l)
  unfold wordI
  omega
theorem wordsI_len {f : Fnt} {ls : List (List UInt8)} : ∀ (ws : List (List UInt8)) (i : Nat), (wordsI f ls i ws).length ≤ 121 * ws.length
  | [], i => by simp [wordsI]
  | l :: r, i => by
    rw [wordsI]
    have := wordsI_len (f := f) (ls := ls) r (i + 1)
    have := wordI_len f ls l
    split <;> simp <;> omega

/-- Every part of a word is a word. -/
theorem split_words {l : List UInt8} (hlow : ∀ u ∈ l, lowB u = true) : ∀ (ps : List Int) (f : Int) (r : List (List UInt8)), 0 ≤ f → f < l.length → splitGo l f ps = some r → ∀ x ∈ r, 0 < x.length ∧ x.length ≤ l.length ∧ ∀ u ∈ x, lowB u = true
  | [], f, r, h0, h1, h, x, hx => by
    simp only [splitGo, Option.some.injEq] at h
    subst h
    simp only [List.mem_singleton] at hx
    subst hx
    refine ⟨by simp; omega, by simp, fun u hu => hlow u (List.mem_of_mem_drop hu)⟩
  | p :: ps, f, r, h0, h1, h, x, hx => by
    rw [splitGo] at h
    split at h
    · cases h
    · obtain ⟨r2, hr, rfl⟩ := Option.map_eq_some_iff.1 h
      rcases List.mem_cons.1 hx with rfl | hx
      · refine ⟨by simp [cut]; omega, by simp [cut]; omega, fun u hu => hlow u (List.mem_of_mem_drop (List.mem_of_mem_take hu))⟩
      · exact split_words hlow ps p r2 (by omega) (by omega) hr x hx

theorem part_word {l x : List UInt8} {ps : List Int} (hw : wordOk l = true) (hx : x ∈ splitR l ps) : wordOk x = true := by
  obtain ⟨a, b, c⟩ := word_iff.1 hw
  cases hs : splitGo l 0 ps with
  | none => simp [splitR, hw, hs] at hx
  | some r =>
    have e : splitR l ps = r := by simp [splitR, hw, hs]
    rw [e] at hx
    obtain ⟨h1, h2, h3⟩ := split_words a ps 0 r (by omega) (by omega) hs x hx
    exact word_iff.2 ⟨h3, by omega, by omega⟩

end Go.Proofs.Ytdenlafdbfbkoaa
