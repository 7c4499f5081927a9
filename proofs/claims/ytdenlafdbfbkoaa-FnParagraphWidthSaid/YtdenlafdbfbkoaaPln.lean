/- Items of a paragraph, lines and breaks: plain definitions and laws. No program in sight. -/
import Derived.Test.YtdenlafdbfbkoaaLib
namespace Go.Proofs.Ytdenlafdbfbkoaa
open Go.RowKit
set_option linter.unusedVariables false
set_option linter.unusedSimpArgs false

/-- A valid item. -/
def vItem (x : Item) : Bool :=
  if x.kd = 1 then inR x.sz.wd 0 1000 && decide (x.sz.st = 0) && decide (x.sz.sh = 0) && decide (x.pen = 0) && !x.fl
  else if x.kd = 2 then inR x.sz.wd 0 1000 && inR x.sz.st 0 1000 && inR x.sz.sh 0 x.sz.wd && decide (x.pen = 0) && !x.fl
  else if x.kd = 3 then inR x.sz.wd 0 1000 && decide (x.sz.st = 0) && decide (x.sz.sh = 0) && inR x.pen (-1000) 1000
  else false

def forced (x : Item) : Bool := decide (x.kd = 3) && decide (x.pen = -1000)

/-- A paragraph. -/
def vItems (xs : List Item) : Bool :=
  xs.all vItem && inR xs.length 1 60 && (match xs.getLast? with | some x => forced x | none => false)

theorem take_all {p : Item → Bool} {xs : List Item} {i : Nat} {x : Item} (hx : xs[i]? = some x) (h : ∀ y ∈ xs.take i, p y = true) (hp : p x = true) : ∀ y ∈ xs.take (i + 1), p y = true := by
  intro y hy
  rw [List.take_add_one, hx] at hy
  simp only [Option.toList_some, List.mem_append, List.mem_singleton] at hy
  rcases hy with hy | rfl
  · exact h y hy
  · exact hp

theorem vItems_bad {xs : List Item} {i : Nat} {x : Item} (hx : xs[i]? = some x) (h : vItem x = false) : vItems xs = false := by
  have : xs.all vItem = false := by rw [List.all_eq_false]; exact ⟨x, List.mem_of_getElem? hx, by simp [h]⟩
  simp [vItems, this]

theorem vItems_last {xs : List Item} {x : Item} (hx : xs[((xs.length : Int) - 1).toNat]? = some x) (h : xs.all vItem = true) : vItems xs = (inR xs.length 1 60 && forced x) := by
  rw [show ((xs.length : Int) - 1).toNat = xs.length - 1 by omega] at hx
  simp [vItems, h, List.getLast?_eq_getElem?, hx]

theorem vItems_iff {xs : List Item} : vItems xs = true ↔ (∀ x ∈ xs, vItem x = true) ∧ 1 ≤ xs.length ∧ xs.length ≤ 60 ∧ ∃ x, xs[xs.length - 1]? = some x ∧ forced x = true := by
  unfold vItems
  rw [List.getLast?_eq_getElem?]
  cases h : xs[xs.length - 1]? with
  | none => simp
  | some x =>
    simp only [inR, Bool.and_eq_true, decide_eq_true_eq, List.all_eq_true, Option.some.injEq, exists_eq_left']
    constructor
    · rintro ⟨⟨a, b⟩, c⟩; exact ⟨a, by omega, by omega, c⟩
    · rintro ⟨a, b, c, d⟩; exact ⟨⟨a, by omega⟩, d⟩

/-! ### Breaks -/
/-- A line of valid items may end at item i. -/
def brkN (xs : List Item) (i : Nat) : Bool :=
  match xs[i]? with
  | none => false
  | some x => if x.kd = 3 then decide (x.pen < 1000) else decide (x.kd = 2) && decide (0 < i) && (match xs[i - 1]? with | some y => decide (y.kd = 1) | none => false)

def brk (xs : List Item) (i : Int) : Bool := decide (0 ≤ i) && brkN xs i.toNat

theorem brkN_lt {xs : List Item} {i : Nat} (h : brkN xs i = true) : i < xs.length := by
  unfold brkN at h
  split at h
  · cases h
  · rename_i x hx; exact (List.getElem?_eq_some_iff.1 hx).1

theorem brk_iff {xs : List Item} {i : Int} : brk xs i = true ↔ 0 ≤ i ∧ i < xs.length ∧ brkN xs i.toNat = true := by
  unfold brk
  simp only [Bool.and_eq_true, decide_eq_true_eq]
  constructor
  · rintro ⟨h, k⟩; have := brkN_lt k; exact ⟨h, by omega, k⟩
  · rintro ⟨h, _, k⟩; exact ⟨h, k⟩

theorem brkN_forced {xs : List Item} {i : Nat} {x : Item} (hx : xs[i]? = some x) (h : forced x = true) : brkN xs i = true := by
  simp [forced] at h
  simp [brkN, hx, h]

/-- Numbers below n of which p holds. -/
def selTo (p : Nat → Bool) (n : Nat) : List Int := ((List.range n).filter p).map (fun i : Nat => (i : Int))

theorem selTo_succ_t {p : Nat → Bool} {n : Nat} (h : p n = true) : selTo p (n + 1) = selTo p n ++ [(n : Int)] := by
  simp [selTo, List.range_succ, List.filter_append, h]
theorem selTo_succ_f {p : Nat → Bool} {n : Nat} (h : p n = false) : selTo p (n + 1) = selTo p n := by
  simp [selTo, List.range_succ, List.filter_append, h]
theorem selTo_len (p : Nat → Bool) (n : Nat) : (selTo p n).length ≤ n := by
  simp only [selTo, List.length_map]
  exact Nat.le_trans (List.length_filter_le _ _) (by simp)
theorem mem_selTo {p : Nat → Bool} {n : Nat} {z : Int} : z ∈ selTo p n ↔ ∃ i : Nat, i < n ∧ p i = true ∧ (i : Int) = z := by
  simp [selTo, and_assoc]
theorem selTo_asc {p : Nat → Bool} : ∀ (n i j : Nat) (a b : Int), (selTo p n)[i]? = some a → (selTo p n)[j]? = some b → i < j → a < b
  | 0, i, j, a, b, h, _, _ => by simp [selTo] at h
  | n + 1, i, j, a, b, h, k, hlt => by
    cases hp : p n with
    | false => rw [selTo_succ_f hp] at h k; exact selTo_asc n i j a b h k hlt
    | true =>
      rw [selTo_succ_t hp] at h k
      have hj := (List.getElem?_eq_some_iff.1 k).1
      simp at hj
      have hi : i < (selTo p n).length := by omega
      rw [List.getElem?_append_left hi] at h
      by_cases hj2 : j < (selTo p n).length
      · rw [List.getElem?_append_left hj2] at k
        exact selTo_asc n i j a b h k hlt
      · rw [List.getElem?_append_right (by omega)] at k
        have : j - (selTo p n).length = 0 := by omega
        rw [this] at k
        simp at k
        subst k
        obtain ⟨q, hq, _, rfl⟩ := mem_selTo.1 (List.mem_of_getElem? h)
        omega

def breaksOf (xs : List Item) : List Int := if vItems xs then selTo (brkN xs) xs.length else []
def frcN (xs : List Item) (i : Nat) : Bool := match xs[i]? with | some x => forced x | none => false
def forcedOf (xs : List Item) : List Int := if vItems xs then selTo (frcN xs) xs.length else []

theorem selTo_last {p : Nat → Bool} {n : Nat} (h1 : 1 ≤ n) (h : p (n - 1) = true) : (selTo p n).getLast? = some ((n : Int) - 1) := by
  obtain ⟨m, rfl⟩ : ∃ m, n = m + 1 := ⟨n - 1, by omega⟩
  simp at h
  rw [selTo_succ_t h]
  simp

/-! ### Lines -/
def seg (xs : List Item) (f t : Int) : List Item := (xs.take t.toNat).drop (f + 1).toNat

/-- There is a line between two places. -/
def lineOk (xs : List Item) (f t : Int) : Bool := decide (f < t) && (decide (f = -1) || brk xs f) && brk xs t && !(seg xs f t).any forced

theorem lineOk_iff {xs : List Item} {f t : Int} : lineOk xs f t = true ↔ f < t ∧ -1 ≤ f ∧ t < xs.length ∧ (f = -1 ∨ brk xs f = true) ∧ brk xs t = true ∧ ∀ (j : Nat) x, xs[j]? = some x → f < j → (j : Int) < t → forced x = false := by
  unfold lineOk
  simp only [Bool.and_eq_true, decide_eq_true_eq, Bool.or_eq_true, Bool.not_eq_true']
  constructor
  · rintro ⟨⟨⟨h1, h2⟩, h3⟩, h4⟩
    have hb := brk_iff.1 h3
    have hf : -1 ≤ f := by
      rcases h2 with h2 | h2
      · omega
      · have := brk_iff.1 h2; omega
    refine ⟨h1, hf, hb.2.1, h2, h3, fun j x hx h5 h6 => ?_⟩
    rw [List.any_eq_false] at h4
    have := h4 x (by
      refine List.mem_of_getElem? (i := j - (f + 1).toNat) ?_
      unfold seg
      rw [List.getElem?_drop, List.getElem?_take, if_pos (by omega), ← hx]
      congr 1
      omega)
    simpa using this
  · rintro ⟨h1, hf, hl, h2, h3, h4⟩
    refine ⟨⟨⟨h1, h2⟩, h3⟩, ?_⟩
    rw [List.any_eq_false]
    intro x hx
    obtain ⟨i, hi⟩ := List.getElem?_of_mem hx
    unfold seg at hi
    rw [List.getElem?_drop, List.getElem?_take] at hi
    split at hi
    · have := h4 _ x hi (by omega) (by omega)
      simp [this]
    · cases hi

def addI (a b : Glue) : Glue := ⟨a.wd + b.wd, a.st + b.st, a.sh + b.sh⟩
def addT (g : Glue) (x : Item) : Glue := if x.kd = 3 then g else addI g x.sz
def sumG (l : List Item) : Glue := l.foldl addT Glue.zero

theorem sumG_snoc (l : List Item) (x : Item) : sumG (l ++ [x]) = addT (sumG l) x := by simp [sumG]

def notBox (x : Item) : Bool := decide (x.kd ≠ 1)

def lnGlue (xs : List Item) (f t : Int) : Glue :=
  match xs[t.toNat]? with
  | some x => if x.kd = 3 then ⟨(sumG ((seg xs f t).dropWhile notBox)).wd + x.sz.wd, (sumG ((seg xs f t).dropWhile notBox)).st, (sumG ((seg xs f t).dropWhile notBox)).sh⟩ else sumG ((seg xs f t).dropWhile notBox)
  | none => sumG ((seg xs f t).dropWhile notBox)

theorem dropWhile_at {α : Type} {p : α → Bool} : ∀ (l : List α) (n : Nat), n ≤ l.length → (∀ j x, l[j]? = some x → j < n → p x = true) → (∀ x, l[n]? = some x → p x = false) → l.dropWhile p = l.drop n
  | [], n, h, _, _ => by simp at h; subst h; rfl
  | x :: l, 0, _, _, h2 => by
    have := h2 x rfl
    simp [List.dropWhile_cons, this]
  | x :: l, n + 1, h, h1, h2 => by
    have hx := h1 0 x rfl (by omega)
    rw [List.dropWhile_cons, if_pos hx, List.drop_succ_cons]
    exact dropWhile_at l n (by simpa using h) (fun j y hy hj => h1 (j + 1) y (by simpa using hy) (by omega)) (fun y hy => h2 y (by simpa using hy))

/-- What valid items' sums may be. -/
def okT (x : Item) : Prop := (0 ≤ x.sz.wd ∧ x.sz.wd ≤ 1000) ∧ (0 ≤ x.sz.st ∧ x.sz.st ≤ 1000) ∧ (0 ≤ x.sz.sh ∧ x.sz.sh ≤ x.sz.wd)

theorem vItem_ok {x : Item} (h : vItem x = true) : okT x := by
  unfold vItem at h
  unfold okT
  split at h
  · simp [inR] at h; omega
  · split at h
    · simp [inR] at h; omega
    · split at h
      · simp [inR] at h; omega
      · cases h

theorem addT_bd {g : Glue} {x : Item} {n : Int} (hx : okT x) (h : (0 ≤ g.wd ∧ g.wd ≤ 1000 * n) ∧ (0 ≤ g.st ∧ g.st ≤ 1000 * n) ∧ (0 ≤ g.sh ∧ g.sh ≤ g.wd)) :
    (0 ≤ (addT g x).wd ∧ (addT g x).wd ≤ 1000 * (n + 1)) ∧ (0 ≤ (addT g x).st ∧ (addT g x).st ≤ 1000 * (n + 1)) ∧ (0 ≤ (addT g x).sh ∧ (addT g x).sh ≤ (addT g x).wd) := by
  unfold okT at hx
  unfold addT
  split
  · omega
  · simp only [addI]; omega

theorem foldT_bd : ∀ (l : List Item) (g : Glue) (n : Int), (∀ x ∈ l, okT x) → (0 ≤ g.wd ∧ g.wd ≤ 1000 * n) ∧ (0 ≤ g.st ∧ g.st ≤ 1000 * n) ∧ (0 ≤ g.sh ∧ g.sh ≤ g.wd) →
    (0 ≤ (l.foldl addT g).wd ∧ (l.foldl addT g).wd ≤ 1000 * (n + l.length)) ∧ (0 ≤ (l.foldl addT g).st ∧ (l.foldl addT g).st ≤ 1000 * (n + l.length)) ∧ (0 ≤ (l.foldl addT g).sh ∧ (l.foldl addT g).sh ≤ (l.foldl addT g).wd)
  | [], g, n, _, h => by simpa using h
  | x :: l, g, n, hl, h => by
    have := foldT_bd l (addT g x) (n + 1) (fun y hy => hl y (by simp [hy])) (addT_bd (hl x (by simp)) h)
    simp only [List.foldl_cons, List.length_cons]
    omega

theorem sumG_bd (l : List Item) (h : ∀ x ∈ l, okT x) : (0 ≤ (sumG l).wd ∧ (sumG l).wd ≤ 1000 * l.length) ∧ (0 ≤ (sumG l).st ∧ (sumG l).st ≤ 1000 * l.length) ∧ (0 ≤ (sumG l).sh ∧ (sumG l).sh ≤ (sumG l).wd) := by
  have := foldT_bd l Glue.zero 0 h (by simp [Glue.zero])
  unfold sumG
  omega

theorem addG_add {g h : Glue} (a : (0 ≤ g.wd ∧ g.wd ≤ 100000000) ∧ (0 ≤ g.st ∧ g.st ≤ 100000000) ∧ (0 ≤ g.sh ∧ g.sh ≤ 100000000)) (b : (0 ≤ h.wd ∧ h.wd ≤ 100000000) ∧ (0 ≤ h.st ∧ h.st ≤ 100000000) ∧ (0 ≤ h.sh ∧ h.sh ≤ 100000000)) : addG g h = addI g h := by
  unfold addG addI
  rw [IntWalk.wrap64_in, IntWalk.wrap64_in, IntWalk.wrap64_in] <;> omega

theorem mem_seg {xs : List Item} {f t : Int} {x : Item} (h : x ∈ seg xs f t) : x ∈ xs := List.mem_of_mem_take (List.mem_of_mem_drop h)

theorem seg_len {xs : List Item} {f t : Int} : (seg xs f t).length ≤ xs.length := by unfold seg; simp; omega

theorem seg_get {xs : List Item} {f t : Int} {j : Nat} {x : Item} (hf : -1 ≤ f) (h : (seg xs f t)[j]? = some x) : xs[(f + 1).toNat + j]? = some x ∧ ((f + 1).toNat + j : Int) < t := by
  unfold seg at h
  rw [List.getElem?_drop, List.getElem?_take] at h
  split at h
  · exact ⟨h, by omega⟩
  · cases h

/-- Where a line's sum begins: the first box behind the break before it. -/
theorem seg_start {xs : List Item} {f t : Int} {i : Nat} (hf : -1 ≤ f) (ht : t ≤ xs.length) (h1 : f + 1 ≤ i) (h2 : (i : Int) ≤ t) (h3 : ∀ (j : Nat) x, xs[j]? = some x → f < j → j < i → x.kd ≠ 1) (h4 : ∀ x, xs[i]? = some x → (i : Int) < t → x.kd = 1) :
    (seg xs f t).dropWhile notBox = (xs.take t.toNat).drop i := by
  rw [dropWhile_at (seg xs f t) (i - (f + 1).toNat) (by unfold seg; simp; omega) (fun j x hx hj => by
    obtain ⟨a, b⟩ := seg_get hf hx
    have := h3 _ x a (by omega) (by omega)
    simp [notBox, this]) (fun x hx => by
    obtain ⟨a, b⟩ := seg_get hf hx
    have e : (f + 1).toNat + (i - (f + 1).toNat) = i := by omega
    rw [e] at a
    have := h4 x a (by omega)
    simp [notBox, this])]
  unfold seg
  rw [List.drop_drop]
  congr 1
  omega

theorem seg_nobox {xs : List Item} {f t : Int} (hf : -1 ≤ f) (h3 : ∀ (j : Nat) x, xs[j]? = some x → f < j → (j : Int) < t → x.kd ≠ 1) : (seg xs f t).dropWhile notBox = [] := by
  rw [dropWhile_at (seg xs f t) (seg xs f t).length (Nat.le_refl _) (fun j x hx hj => by
    obtain ⟨a, b⟩ := seg_get hf hx
    have := h3 _ x a (by omega) (by omega)
    simp [notBox, this]) (fun x hx => by simp at hx)]
  simp

theorem mem_dropWhile {α : Type} {p : α → Bool} : ∀ {l : List α} {x : α}, x ∈ l.dropWhile p → x ∈ l
  | [], x, h => by simp at h
  | y :: l, x, h => by
    rw [List.dropWhile_cons] at h
    split at h
    · exact List.mem_cons_of_mem _ (mem_dropWhile h)
    · exact h

theorem dropWhile_len {α : Type} {p : α → Bool} : ∀ (l : List α), (l.dropWhile p).length ≤ l.length
  | [] => by simp
  | y :: l => by
    rw [List.dropWhile_cons]
    split
    · have := dropWhile_len (p := p) l; simp; omega
    · simp

theorem lnSum_bd {xs : List Item} {f t : Int} (hv : vItems xs = true) : (0 ≤ (sumG ((seg xs f t).dropWhile notBox)).wd ∧ (sumG ((seg xs f t).dropWhile notBox)).wd ≤ 60000) ∧ (0 ≤ (sumG ((seg xs f t).dropWhile notBox)).st ∧ (sumG ((seg xs f t).dropWhile notBox)).st ≤ 60000) ∧
    (0 ≤ (sumG ((seg xs f t).dropWhile notBox)).sh ∧ (sumG ((seg xs f t).dropWhile notBox)).sh ≤ (sumG ((seg xs f t).dropWhile notBox)).wd) := by
  obtain ⟨h1, h2, h3, _⟩ := vItems_iff.1 hv
  have := sumG_bd ((seg xs f t).dropWhile notBox) (fun x hx => vItem_ok (h1 x (mem_seg (mem_dropWhile hx))))
  have := dropWhile_len (p := notBox) (seg xs f t)
  have := seg_len (xs := xs) (f := f) (t := t)
  omega

theorem lnGlue_bd {xs : List Item} {f t : Int} (hv : vItems xs = true) : (0 ≤ (lnGlue xs f t).wd ∧ (lnGlue xs f t).wd ≤ 61000) ∧ (0 ≤ (lnGlue xs f t).st ∧ (lnGlue xs f t).st ≤ 60000) ∧ (0 ≤ (lnGlue xs f t).sh ∧ (lnGlue xs f t).sh ≤ (lnGlue xs f t).wd) := by
  have hb := lnSum_bd (f := f) (t := t) hv
  unfold lnGlue
  cases h : xs[t.toNat]? with
  | none => simp only; omega
  | some x =>
    have hx := vItem_ok ((vItems_iff.1 hv).1 x (List.mem_of_getElem? h))
    unfold okT at hx
    simp only
    split
    · simp only; omega
    · omega

def lineGlueR (xs : List Item) (f t : Int) : Glue × Bool := if vItems xs && lineOk xs f t then (lnGlue xs f t, true) else (Glue.zero, false)

def clampG (g : Glue) : Glue := ⟨min g.wd 10000, min g.st 10000, min g.sh 10000⟩
def fitLn (xs : List Item) (f t w : Int) : Int × Int := fitI (clampG (lnGlue xs f t)) w
def fitLineR (xs : List Item) (f t w : Int) : Int × Int := if vItems xs && lineOk xs f t && inR w 1 10000 then fitLn xs f t w else (0, -1)

theorem clamp_ok {xs : List Item} {f t : Int} (hv : vItems xs = true) : vGlue (clampG (lnGlue xs f t)) = true := by
  have := lnGlue_bd (f := f) (t := t) hv
  rw [vGlue_iff]
  simp only [clampG]
  omega

theorem fitR_clamp {xs : List Item} {f t w : Int} (hv : vItems xs = true) (hw : inR w 1 10000 = true) : fitR (clampG (lnGlue xs f t)) w = fitLn xs f t w := by
  unfold fitR fitLn
  have := inR_iff.1 hw
  rw [clamp_ok hv, show inR w 0 10000 = true by simp [inR]; omega]
  rfl

/-! ### Chains of lines -/
/-- The break ahead of line k. -/
def frm (bs : List Int) (k : Nat) : Int := ((-1) :: bs).getD k 0
theorem frm_zero (bs : List Int) : frm bs 0 = -1 := rfl
theorem frm_succ {bs : List Int} {k : Nat} {b : Int} (h : bs[k]? = some b) : frm bs (k + 1) = b := by simp [frm, h]

def linesTo (xs : List Item) (bs : List Int) (n : Nat) : Bool := (List.range n).all fun k => lineOk xs (frm bs k) (frm bs (k + 1))
def vBreaks (xs : List Item) (bs : List Int) : Bool := vItems xs && linesTo xs bs bs.length && decide (frm bs bs.length = (xs.length : Int) - 1)

theorem linesTo_succ {xs : List Item} {bs : List Int} {n : Nat} : linesTo xs bs (n + 1) = (linesTo xs bs n && lineOk xs (frm bs n) (frm bs (n + 1))) := by
  simp [linesTo, List.range_succ]
theorem linesTo_bad {xs : List Item} {bs : List Int} {n k : Nat} (hk : k < n) (h : lineOk xs (frm bs k) (frm bs (k + 1)) = false) : linesTo xs bs n = false := by
  unfold linesTo
  rw [List.all_eq_false]
  exact ⟨k, by simpa using hk, by simp [h]⟩
theorem linesTo_get {xs : List Item} {bs : List Int} {n k : Nat} (h : linesTo xs bs n = true) (hk : k < n) : lineOk xs (frm bs k) (frm bs (k + 1)) = true := by
  unfold linesTo at h
  rw [List.all_eq_true] at h
  exact h k (by simpa using hk)

theorem frm_last {bs : List Int} {b : Int} (h0 : 0 < bs.length) (h : bs[bs.length - 1]? = some b) : frm bs bs.length = b := by
  obtain ⟨m, hm⟩ : ∃ m, bs.length = m + 1 := ⟨bs.length - 1, by omega⟩
  rw [hm] at h ⊢
  exact frm_succ (by simpa using h)

/-! ### The cost of a line -/
def penAt (xs : List Item) (i : Int) : Int := match xs[i.toNat]? with | some x => x.pen | none => 0
def flAt (xs : List Item) (i : Int) : Bool := match xs[i.toNat]? with | some x => x.fl | none => false

def lnCost (xs : List Item) (f t w tol : Int) : Int × Bool :=
  if (fitLn xs f t w).1 = 4 ∨ tol < (fitLn xs f t w).2 then (0, false) else (demI (fitLn xs f t w).2 (penAt xs t) (decide (0 ≤ f) && flAt xs f && flAt xs t), true)

def lineCostR (xs : List Item) (f t w tol : Int) : Int × Bool := if vItems xs && lineOk xs f t && inR w 1 10000 && inR tol 0 10000 then lnCost xs f t w tol else (0, false)

theorem pen_break {xs : List Item} {t : Int} (hv : vItems xs = true) (hb : brk xs t = true) : -1000 ≤ penAt xs t ∧ penAt xs t ≤ 999 := by
  obtain ⟨h1, h2, h3⟩ := brk_iff.1 hb
  obtain ⟨x, hx⟩ : ∃ x, xs[t.toNat]? = some x := ⟨_, List.getElem?_eq_getElem (by omega)⟩
  have hi := (vItems_iff.1 hv).1 x (List.mem_of_getElem? hx)
  simp only [brkN, hx] at h3
  simp only [penAt, hx]
  unfold vItem at hi
  by_cases k1 : x.kd = 3
  · simp [k1] at h3
    simp [k1, inR] at hi
    omega
  · simp [k1] at h3
    simp [h3.1] at hi
    omega

theorem badI_bd (n h : Int) (h0 : 0 ≤ n) (h1 : n ≤ 20000) (h2 : 0 ≤ h) (h3 : h ≤ 10000) : 0 ≤ badI n h ∧ badI n h ≤ 10000 := by
  unfold badI
  split
  · omega
  · split
    · omega
    · obtain ⟨b1, b2, b3, b4⟩ := cube_bd h (by omega) h3
      obtain ⟨b5, b6, b7, b8⟩ := cube100_bd n h0 h1
      have := Int.ediv_nonneg b7 (show 0 ≤ h * h * h by omega)
      omega

theorem fitI_bd {g : Glue} {w : Int} (hg : vGlue g = true) (hw : 0 ≤ w ∧ w ≤ 10000) : (1 ≤ (fitI g w).1 ∧ (fitI g w).1 ≤ 4) ∧ 0 ≤ (fitI g w).2 ∧ (fitI g w).2 ≤ 10000 := by
  obtain ⟨⟨v1, v2⟩, ⟨v3, v4⟩, v5, v6⟩ := vGlue_iff.1 hg
  unfold fitI
  split
  · simp
  · split
    · have := badI_bd (w - g.wd) g.st (by omega) (by omega) v3 v4; simp; omega
    · split
      · have := badI_bd (g.wd - w) g.sh (by omega) (by omega) v5 v6; simp; omega
      · simp

theorem fitLn_bd {xs : List Item} {f t w : Int} (hv : vItems xs = true) (hw : inR w 1 10000 = true) : (1 ≤ (fitLn xs f t w).1 ∧ (fitLn xs f t w).1 ≤ 4) ∧ 0 ≤ (fitLn xs f t w).2 ∧ (fitLn xs f t w).2 ≤ 10000 :=
  fitI_bd (clamp_ok hv) (by have := inR_iff.1 hw; omega)

theorem demI_bd (bad pen : Int) (fl : Bool) (h0 : 0 ≤ bad) (h1 : bad ≤ 10000) (h2 : -1000 ≤ pen) (h3 : pen ≤ 999) : -1000000 ≤ demI bad pen fl ∧ demI bad pen fl ≤ 500000000 := by
  obtain ⟨b1, b2⟩ := sq_bd (1 + bad) (by omega) (by omega)
  obtain ⟨b3, b4⟩ := sq_bd (1 + bad + pen) (by omega) (by omega)
  obtain ⟨b5, b6⟩ := sq_bd pen (by omega) (by omega)
  have b7 : -1000 < pen → pen < 0 → pen * pen ≤ 1000 * 1000 := fun a b => by
    have := Int.mul_le_mul (a := -pen) (b := -pen) (c := 1000) (d := 1000) (by omega) (by omega) (by omega) (by omega)
    rwa [Int.neg_mul_neg] at this
  unfold demI
  split
  · split <;> omega
  · split
    · split <;> omega
    · split <;> omega

theorem lnCost_bd {xs : List Item} {f t w tol : Int} (hv : vItems xs = true) (hw : inR w 1 10000 = true) (hl : brk xs t = true) : -1000000 ≤ (lnCost xs f t w tol).1 ∧ (lnCost xs f t w tol).1 ≤ 500000000 := by
  have h1 := fitLn_bd (f := f) (t := t) hv hw
  have h2 := pen_break hv hl
  unfold lnCost
  split
  · simp
  · exact demI_bd _ _ _ h1.2.1 h1.2.2 h2.1 h2.2

/-! ### Longer lines -/
theorem foldT_mono : ∀ (l : List Item) (g : Glue), (∀ x ∈ l, okT x) → g.wd ≤ (l.foldl addT g).wd ∧ g.wd - g.sh ≤ (l.foldl addT g).wd - (l.foldl addT g).sh
  | [], g, _ => by simp
  | x :: l, g, h => by
    have := foldT_mono l (addT g x) (fun y hy => h y (by simp [hy]))
    have hx := h x (by simp)
    unfold okT at hx
    simp only [List.foldl_cons]
    have h2 : g.wd ≤ (addT g x).wd ∧ g.wd - g.sh ≤ (addT g x).wd - (addT g x).sh := by
      unfold addT
      split
      · omega
      · simp only [addI]; omega
    omega

theorem sumG_more : ∀ (l r : List Item), (∀ x ∈ l ++ r, okT x) → (sumG (l.dropWhile notBox)).wd ≤ (sumG ((l ++ r).dropWhile notBox)).wd ∧
    (sumG (l.dropWhile notBox)).wd - (sumG (l.dropWhile notBox)).sh ≤ (sumG ((l ++ r).dropWhile notBox)).wd - (sumG ((l ++ r).dropWhile notBox)).sh
  | [], r, h => by
    have := foldT_mono (r.dropWhile notBox) Glue.zero (fun x hx => h x (by simpa using mem_dropWhile hx))
    simpa [sumG] using this
  | x :: l, r, h => by
    simp only [List.cons_append, List.dropWhile_cons]
    split
    · exact sumG_more l r (fun y hy => h y (by simp only [List.cons_append, List.mem_cons]; exact .inr hy))
    · have := foldT_mono r (sumG (x :: l)) (fun y hy => h y (by simp [hy]))
      simp only [sumG, List.foldl_cons, List.foldl_append] at this ⊢
      exact this

theorem seg_split {xs : List Item} {f t b : Int} (h0 : -1 ≤ f) (h1 : f < t) (h2 : t ≤ b) : ∃ r, seg xs f b = seg xs f t ++ r ∧ ∀ x ∈ r, x ∈ xs := by
  refine ⟨((xs.take b.toNat).drop t.toNat).drop 0, ?_, fun x hx => List.mem_of_mem_take (List.mem_of_mem_drop (by simpa using hx))⟩
  unfold seg
  have e : xs.take b.toNat = xs.take t.toNat ++ (xs.take b.toNat).drop t.toNat := by
    have := List.take_append_drop t.toNat (xs.take b.toNat)
    rw [List.take_take, Nat.min_eq_left (by omega)] at this
    exact this.symm
  by_cases hl : (f + 1).toNat ≤ (xs.take t.toNat).length
  · conv => lhs; rw [e]
    rw [List.drop_append_of_le_length hl]
    simp
  · simp at hl
    have e2 : (xs.take b.toNat).drop t.toNat = [] := by simp; omega
    have e3 : xs.take b.toNat = xs.take t.toNat := by rw [e, e2]; simp
    rw [e3]
    simp

theorem lnGlue_longer {xs : List Item} {f t b : Int} (hv : vItems xs = true) (h0 : -1 ≤ f) (h1 : f < t) (h2 : t < b) (hk : ∀ x, xs[t.toNat]? = some x → x.kd ≠ 3) :
    (lnGlue xs f t).wd ≤ (lnGlue xs f b).wd ∧ (lnGlue xs f t).wd - (lnGlue xs f t).sh ≤ (lnGlue xs f b).wd - (lnGlue xs f b).sh := by
  obtain ⟨r, e, hr⟩ := seg_split (xs := xs) h0 h1 (show t ≤ b by omega)
  have ok := fun x hx => vItem_ok ((vItems_iff.1 hv).1 x hx)
  have hm := sumG_more (seg xs f t) r (fun x hx => by
    rw [List.mem_append] at hx
    rcases hx with hx | hx
    · exact ok x (mem_seg hx)
    · exact ok x (hr x hx))
  rw [← e] at hm
  have e1 : lnGlue xs f t = sumG ((seg xs f t).dropWhile notBox) := by
    unfold lnGlue
    split
    · rename_i x hx; rw [if_neg (hk x hx)]
    · rfl
  rw [e1]
  unfold lnGlue
  cases hb : xs[b.toNat]? with
  | none => exact hm
  | some y =>
    have hy := ok y (List.mem_of_getElem? hb)
    unfold okT at hy
    simp only
    split
    · simp only; omega
    · exact hm

end Go.Proofs.Ytdenlafdbfbkoaa
