/- What the items of a paragraph of words count. No program in sight. -/
import Derived.Test.YtdenlafdbfbkoaaPlnQ
namespace Go.Proofs.Ytdenlafdbfbkoaa
open Go.RowKit
set_option linter.unusedVariables false
set_option linter.unusedSimpArgs false

def cntK (k : Int) (xs : List Item) : Nat := xs.countP fun x => decide (x.kd = k)
theorem cntK_app (k : Int) (xs ys : List Item) : cntK k (xs ++ ys) = cntK k xs + cntK k ys := by simp [cntK]

theorem hpx_split {l : List UInt8} : ∀ (vs : List Int) (k : Nat) (f : Int), 0 ≤ f → f < (k : Int) → f < (l.length : Int) →
    ∃ r, splitGo l f (hpGo l.length k vs) = some r ∧ r.length = (hpGo l.length k vs).length + 1
  | [], k, f, h0, h1, h2 => ⟨[l.drop f.toNat], rfl, rfl⟩
  | v :: vs, k, f, h0, h1, h2 => by
    rw [hpGo]
    split
    · rename_i h
      obtain ⟨r, e1, e2⟩ := hpx_split (l := l) vs (k + 1) (k : Int) (by omega) (by omega) (by omega)
      refine ⟨cut l f (k : Int) :: r, ?_, by simp [e2]⟩
      rw [splitGo, if_neg (by omega), e1]; rfl
    · exact hpx_split vs (k + 1) f h0 (by omega) h2

theorem hpx_len {ls : List (List UInt8)} {l : List UInt8} (hw : wordOk l = true) : (splitR l (hpR ls l)).length = (hpR ls l).length + 1 := by
  obtain ⟨_, h1, _⟩ := word_iff.1 hw
  obtain ⟨r, e1, e2⟩ := hpx_split (l := l) (hvR ls l) 1 0 (by omega) (by omega) (by omega)
  have er : splitR l (hpR ls l) = r := by rw [splitR, if_pos hw, hpR, e1]; rfl
  rw [er]
  exact e2

theorem parts_box (f : Fnt) : ∀ (ps : List (List UInt8)) (k : Nat), cntK 1 (partsI f k ps) = ps.length ∧ cntK 2 (partsI f k ps) = 0
  | [], k => ⟨rfl, rfl⟩
  | p :: ps, k => by
    obtain ⟨a, b⟩ := parts_box f ps (k + 1)
    rw [partsI, cntK_app, cntK_app]
    have e1 : cntK 1 (boxI (wwR f p) :: partsI f (k + 1) ps) = cntK 1 (partsI f (k + 1) ps) + 1 := by simp [cntK, boxI]
    have e2 : cntK 2 (boxI (wwR f p) :: partsI f (k + 1) ps) = cntK 2 (partsI f (k + 1) ps) := by simp [cntK, boxI]
    rw [e1, e2, a, b]
    split <;> simp [cntK, hypI] <;> omega

/-- One box more than places of division, word by word. -/
def boxesTo (ls : List (List UInt8)) : List (List UInt8) → Nat
  | [] => 0
  | l :: r => 1 + (hpR ls l).length + boxesTo ls r

theorem words_box (f : Fnt) (ls : List (List UInt8)) : ∀ (ws : List (List UInt8)) (i : Nat), (∀ u ∈ ws, wordOk u = true) → cntK 1 (wordsI f ls i ws) = boxesTo ls ws ∧ cntK 2 (wordsI f ls i ws) = (if i = 0 then ws.length - 1 else ws.length)
  | [], i, h => ⟨rfl, by simp [wordsI, cntK]⟩
  | l :: r, i, h => by
    obtain ⟨a, b⟩ := words_box f ls r (i + 1) (fun u hu => h u (List.mem_cons_of_mem _ hu))
    have hl := hpx_len (ls := ls) (h l List.mem_cons_self)
    obtain ⟨c, d⟩ := parts_box f (splitR l (hpR ls l)) 0
    rw [wordsI, cntK_app, cntK_app, cntK_app, cntK_app, a, b]
    rw [show wordI f ls l = partsI f 0 (splitR l (hpR ls l)) from rfl, c, d, hl, boxesTo]
    rw [if_neg (show ¬ (i + 1 = 0) by omega)]
    by_cases hi : i = 0
    · simp [hi, cntK]; omega
    · have : 0 < i := by omega
      simp [hi, this, cntK, gluI]; omega

theorem para_box {f : Fnt} {ls ws : List (List UInt8)} (h : ∀ u ∈ ws, wordOk u = true) (hn : 1 ≤ ws.length) : cntK 1 (paraI f ls ws) = boxesTo ls ws ∧ cntK 2 (paraI f ls ws) = ws.length := by
  obtain ⟨a, b⟩ := words_box f ls ws 0 h
  rw [paraI, cntK_app, cntK_app, a, b]
  simp [cntK, end1, end2, end3]
  omega

theorem boxes_step {ls ws : List (List UInt8)} {i : Nat} {l : List UInt8} (h : ws[i]? = some l) : boxesTo ls (ws.take (i + 1)) = boxesTo ls (ws.take i) + (1 + (hpR ls l).length) := by
  have app : ∀ (xs ys : List (List UInt8)), boxesTo ls (xs ++ ys) = boxesTo ls xs + boxesTo ls ys := by
    intro xs ys
    induction xs with
    | nil => simp [boxesTo]
    | cons x xs ih => simp only [List.cons_append, boxesTo, ih]; omega
  rw [List.take_add_one, h, app]
  simp [boxesTo]

theorem boxes_le (ls ws : List (List UInt8)) : boxesTo ls ws ≤ 21 * ws.length := by
  induction ws with
  | nil => simp [boxesTo]
  | cons x xs ih =>
    have := hpR_len ls x
    simp only [boxesTo, List.length_cons]
    omega

theorem cntK_step {k : Int} {xs : List Item} {i : Nat} {x : Item} (h : xs[i]? = some x) : cntK k (xs.take (i + 1)) = cntK k (xs.take i) + (if x.kd = k then 1 else 0) := by
  rw [List.take_add_one, h, cntK_app]
  simp [cntK, List.countP_cons]

/-! ### The forced break -/
theorem parts_free (f : Fnt) : ∀ (ps : List (List UInt8)) (k : Nat), ∀ x ∈ partsI f k ps, forced x = false
  | [], k, x, hx => by simp [partsI] at hx
  | p :: ps, k, x, hx => by
    rw [partsI] at hx
    simp only [List.mem_append, List.mem_cons] at hx
    rcases hx with hx | rfl | hx
    · split at hx
      · simp only [List.mem_singleton] at hx
        subst hx; rfl
      · cases hx
    · rfl
    · exact parts_free f ps (k + 1) x hx

theorem words_free (f : Fnt) (ls : List (List UInt8)) : ∀ (ws : List (List UInt8)) (i : Nat), ∀ x ∈ wordsI f ls i ws, forced x = false
  | [], i, x, hx => by simp [wordsI] at hx
  | l :: r, i, x, hx => by
    rw [wordsI] at hx
    simp only [List.mem_append] at hx
    rcases hx with (hx | hx) | hx
    · split at hx
      · simp only [List.mem_singleton] at hx
        subst hx; rfl
      · cases hx
    · exact parts_free f _ 0 x hx
    · exact words_free f ls r (i + 1) x hx

theorem selTo_one {p : Nat → Bool} {n : Nat} (h : ∀ i, i < n → p i = false) (hn : p n = true) : selTo p (n + 1) = [(n : Int)] := by
  rw [selTo_succ_t hn]
  have : selTo p n = [] := by
    apply List.eq_nil_iff_forall_not_mem.2
    intro z hz
    obtain ⟨i, hi, hp, _⟩ := mem_selTo.1 hz
    rw [h i hi] at hp
    cases hp
  rw [this]
  rfl

theorem para_forced {f : Fnt} {ls ws : List (List UInt8)} (hv : vItems (paraI f ls ws) = true) : forcedOf (paraI f ls ws) = [((paraI f ls ws).length : Int) - 1] := by
  have e : paraI f ls ws = (wordsI f ls 0 ws ++ [end1, end2]) ++ [end3] := by simp [paraI]
  have hl : (paraI f ls ws).length = (wordsI f ls 0 ws ++ [end1, end2]).length + 1 := by rw [e]; simp
  rw [forcedOf, if_pos hv, hl]
  rw [selTo_one]
  · simp
  · intro i hi
    unfold frcN
    have hg : (paraI f ls ws)[i]? = (wordsI f ls 0 ws ++ [end1, end2])[i]? := by rw [e, List.getElem?_append_left hi]
    rw [hg]
    cases hx : (wordsI f ls 0 ws ++ [end1, end2])[i]? with
    | none => rfl
    | some x =>
      have hm := List.mem_of_getElem? hx
      simp only [List.mem_append, List.mem_cons, List.not_mem_nil, or_false] at hm
      rcases hm with hm | rfl | rfl
      · exact words_free f ls ws 0 x hm
      · rfl
      · rfl
  · unfold frcN
    rw [e, List.getElem?_append_right (Nat.le_refl _)]
    simp [end3, forced]

end Go.Proofs.Ytdenlafdbfbkoaa
