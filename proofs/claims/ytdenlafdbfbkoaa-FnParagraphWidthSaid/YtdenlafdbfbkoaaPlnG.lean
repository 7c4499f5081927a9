/- Fonts, glyphs and their widths. No program in sight. -/
import Derived.Test.YtdenlafdbfbkoaaPlnS
namespace Go.Proofs.Ytdenlafdbfbkoaa
open Go.RowKit
set_option linter.unusedVariables false
set_option linter.unusedSimpArgs false

structure GP where
  a : Int
  b : Int
  v : Int

structure Fnt where
  ws : List Int
  sp : Glue
  hy : Int
  ks : List GP
  ls : List GP

def ltP (p q : GP) : Prop := p.a < q.a ∨ (p.a = q.a ∧ p.b < q.b)
def inP (p : GP) : Prop := (0 ≤ p.a ∧ p.a ≤ 35) ∧ 0 ≤ p.b ∧ p.b ≤ 35
def SortP (ks : List GP) : Prop := ∀ i x y, ks[i]? = some x → ks[i + 1]? = some y → ltP x y
def PairsS (ks : List GP) : Prop := (∀ p ∈ ks, inP p) ∧ SortP ks ∧ ks.length ≤ 20
def ValP (lo hi : Int) (ks : List GP) : Prop := ∀ p ∈ ks, lo ≤ p.v ∧ p.v ≤ hi
def PairsP (lo hi : Int) (ks : List GP) : Prop := PairsS ks ∧ ValP lo hi ks
def WidP (ws : List Int) : Prop := ∀ x ∈ ws, 0 ≤ x ∧ x ≤ 100
def FontP (f : Fnt) : Prop := f.ws.length = 36 ∧ (0 ≤ f.hy ∧ f.hy ≤ 100) ∧ vGlue f.sp = true ∧ 0 ≤ f.sp.wd ∧ WidP f.ws ∧ PairsP (-100) 100 f.ks ∧ PairsP 26 35 f.ls

open Classical in
noncomputable def fontOk (f : Fnt) : Bool := decide (FontP f)
theorem fontOk_iff {f : Fnt} : fontOk f = true ↔ FontP f := by simp [fontOk]
theorem fontOk_no {f : Fnt} (h : ¬ FontP f) : fontOk f = false := by simp [fontOk, h]

/-- The order of pairs, as a number. -/
def cmpI (x y : Int) : Int := if x < y then -1 else if y < x then 1 else 0
def cmpP (p q : GP) : Int := if cmpI p.a q.a = 0 then cmpI p.b q.b else cmpI p.a q.a

theorem cmpP_lt {p q : GP} : cmpP p q < 0 ↔ ltP p q := by
  unfold cmpP cmpI ltP
  repeat' split
  all_goals omega

theorem cmpP_eq {p q : GP} : cmpP p q = 0 ↔ p.a = q.a ∧ p.b = q.b := by
  unfold cmpP cmpI
  repeat' split
  all_goals omega

theorem cmpP_bd (p q : GP) : -1 ≤ cmpP p q ∧ cmpP p q ≤ 1 := by
  unfold cmpP cmpI
  repeat' split
  all_goals omega

theorem ltP_trans {p q r : GP} (h1 : ltP p q) (h2 : ltP q r) : ltP p r := by
  unfold ltP at *
  omega

theorem SortP.lt {ks : List GP} (h : SortP ks) : ∀ (n i : Nat) (x y : GP), ks[i]? = some x → ks[i + n + 1]? = some y → ltP x y
  | 0, i, x, y, hx, hy => h i x y hx hy
  | n + 1, i, x, y, hx, hy => by
    have hl := (List.getElem?_eq_some_iff.1 hy).1
    obtain ⟨z, hz⟩ : ∃ z, ks[i + n + 1]? = some z := ⟨_, List.getElem?_eq_getElem (by omega)⟩
    exact ltP_trans (SortP.lt h n i x z hx hz) (h (i + n + 1) z y hz (by rw [← hy]; congr 1))

theorem SortP.lt2 {ks : List GP} (h : SortP ks) {i j : Nat} {x y : GP} (hx : ks[i]? = some x) (hy : ks[j]? = some y) (hij : i < j) : ltP x y := by
  obtain ⟨n, rfl⟩ : ∃ n, j = i + n + 1 := ⟨j - i - 1, by omega⟩
  exact h.lt n i x y hx hy

/-! ### The value of a pair -/
def hitP (a b : Int) (p : GP) : Bool := decide (p.a = a) && decide (p.b = b)
def pval (ks : List GP) (a b : Int) : Option Int := (ks.find? (hitP a b)).map (·.v)

theorem pval_none {ks : List GP} {a b : Int} (h : ∀ p ∈ ks, ¬ (p.a = a ∧ p.b = b)) : pval ks a b = none := by
  rw [pval, List.find?_eq_none.2]
  · rfl
  · intro p hp
    have := h p hp
    simpa [hitP] using this

/-- The first hit. -/
theorem pval_hit : ∀ {ks : List GP} {a b : Int} {i : Nat} {p : GP}, ks[i]? = some p → p.a = a → p.b = b → (∀ j q, j < i → ks[j]? = some q → ¬ (q.a = a ∧ q.b = b)) → pval ks a b = some p.v
  | [], a, b, i, p, hp, _, _, _ => by simp at hp
  | q :: ks, a, b, 0, p, hp, ha, hb, _ => by
    simp only [List.getElem?_cons_zero, Option.some.injEq] at hp
    subst hp
    simp [pval, hitP, ha, hb]
  | q :: ks, a, b, i + 1, p, hp, ha, hb, h => by
    have h0 := h 0 q (by omega) rfl
    have ih := pval_hit (ks := ks) (i := i) (by simpa using hp) ha hb (fun j r hj hr => h (j + 1) r (by omega) (by simpa using hr))
    rw [← ih]
    have h1 : hitP a b q = false := by
      cases hh : hitP a b q
      · rfl
      · simp [hitP] at hh; exact absurd hh h0
    simp [pval, List.find?_cons, h1]

theorem pval_mem {ks : List GP} {a b v : Int} (h : pval ks a b = some v) : ∃ p ∈ ks, p.a = a ∧ p.b = b ∧ p.v = v := by
  rw [pval] at h
  obtain ⟨p, hp, rfl⟩ := Option.map_eq_some_iff.1 h
  have h1 := List.find?_some hp
  simp only [hitP, Bool.and_eq_true, decide_eq_true_eq] at h1
  exact ⟨p, List.mem_of_find?_eq_some hp, h1.1, h1.2, rfl⟩

/-! ### Glyphs -/
def redGo (ls : List GP) : Nat → List Int → List Int
  | 0, out => out
  | n + 1, out => if 1 < out.length then
      match pval ls (out.getD (out.length - 2) 0) (out.getD (out.length - 1) 0) with
      | some v => redGo ls n (out.take (out.length - 2) ++ [v])
      | none => out
    else out
def red (ls : List GP) (out : List Int) : List Int := redGo ls out.length out
def letr (u : UInt8) : Int := (u.toNat : Int) - 97
def glGo (ls : List GP) : List UInt8 → List Int → List Int
  | [], out => out
  | u :: us, out => glGo ls us (red ls (out ++ [letr u]))
noncomputable def glyphsR (f : Fnt) (l : List UInt8) : List Int := if fontOk f && wordOk l then glGo f.ls l [] else []

theorem redGo_yes {ls : List GP} {n : Nat} {out : List Int} {v : Int} (hn : n = out.length) (h1 : 1 < out.length) (hv : pval ls (out.getD (out.length - 2) 0) (out.getD (out.length - 1) 0) = some v) :
    redGo ls n out = redGo ls (out.take (out.length - 2) ++ [v]).length (out.take (out.length - 2) ++ [v]) := by
  subst hn
  have e : (out.take (out.length - 2) ++ [v]).length = out.length - 1 := by simp; omega
  rw [e]
  obtain ⟨m, hm⟩ : ∃ m, out.length = m + 1 := ⟨out.length - 1, by omega⟩
  have e2 : redGo ls out.length out = redGo ls (m + 1) out := by rw [hm]
  rw [e2, redGo, if_pos h1, hv, hm]
  simp

theorem redGo_no {ls : List GP} {n : Nat} {out : List Int} (hv : pval ls (out.getD (out.length - 2) 0) (out.getD (out.length - 1) 0) = none) : redGo ls n out = out := by
  cases n with
  | zero => rfl
  | succ n =>
    rw [redGo]
    split
    · rw [hv]
    · rfl

theorem redGo_short {ls : List GP} {n : Nat} {out : List Int} (h1 : out.length ≤ 1) : redGo ls n out = out := by
  cases n with
  | zero => rfl
  | succ n => rw [redGo, if_neg (by omega)]

def glyOk (out : List Int) : Prop := ∀ x ∈ out, 0 ≤ x ∧ x ≤ 35

theorem glyOk_app {out : List Int} {v : Int} (h : glyOk out) (h0 : 0 ≤ v) (h1 : v ≤ 35) : glyOk (out ++ [v]) := fun x hx => by
  simp only [List.mem_append, List.mem_singleton] at hx
  rcases hx with hx | rfl
  · exact h x hx
  · exact ⟨h0, h1⟩

theorem glyOk_take {out : List Int} {k : Nat} (h : glyOk out) : glyOk (out.take k) := fun x hx => h x (List.mem_of_mem_take hx)

theorem pval_in {ls : List GP} {a b v : Int} (hP : ValP 26 35 ls) (h : pval ls a b = some v) : 26 ≤ v ∧ v ≤ 35 := by
  obtain ⟨p, hp, _, _, rfl⟩ := pval_mem h
  exact hP p hp

theorem redGo_ok {ls : List GP} (hP : ValP 26 35 ls) : ∀ (n : Nat) (out : List Int), glyOk out → glyOk (redGo ls n out) ∧ (redGo ls n out).length ≤ out.length
  | 0, out, h => ⟨h, Nat.le_refl _⟩
  | n + 1, out, h => by
    rw [redGo]
    split
    · split
      · rename_i v hv
        have h1 := pval_in hP hv
        have := redGo_ok hP n _ (glyOk_app (glyOk_take (k := out.length - 2) h) (by omega) h1.2)
        refine ⟨this.1, Nat.le_trans this.2 ?_⟩
        simp
        omega
      · exact ⟨h, Nat.le_refl _⟩
    · exact ⟨h, Nat.le_refl _⟩

theorem glGo_ok {ls : List GP} (hP : ValP 26 35 ls) : ∀ (l : List UInt8) (out : List Int), (∀ u ∈ l, lowB u = true) → glyOk out → glyOk (glGo ls l out) ∧ (glGo ls l out).length ≤ out.length + l.length
  | [], out, _, h => ⟨h, by simp [glGo]⟩
  | u :: us, out, hl, h => by
    rw [glGo]
    have hu := hl u List.mem_cons_self
    simp only [lowB, Bool.and_eq_true, decide_eq_true_eq] at hu
    have h1 := redGo_ok hP (out ++ [letr u]).length _ (glyOk_app (v := letr u) h (by unfold letr; omega) (by unfold letr; omega))
    have h2 := glGo_ok hP us (red ls (out ++ [letr u])) (fun x hx => hl x (List.mem_cons_of_mem _ hx)) h1.1
    refine ⟨h2.1, Nat.le_trans h2.2 ?_⟩
    have := h1.2
    simp only [List.length_append, List.length_cons, List.length_nil] at this ⊢
    unfold red
    simp only [List.length_append, List.length_cons, List.length_nil]
    omega

theorem glGo_step {ls : List GP} {l : List UInt8} {i : Nat} {u : UInt8} {out : List Int} (h : l[i]? = some u) : glGo ls (l.drop i) out = glGo ls (l.drop (i + 1)) (red ls (out ++ [letr u])) := by
  have hl := (List.getElem?_eq_some_iff.1 h).1
  have e : l.drop i = u :: l.drop (i + 1) := by
    rw [List.drop_eq_getElem_cons hl]
    congr 1
    exact (List.getElem?_eq_some_iff.1 h).2
  rw [e, glGo]

theorem glGo_end {ls : List GP} {l : List UInt8} {i : Nat} {out : List Int} (h : l.length ≤ i) : glGo ls (l.drop i) out = out := by
  rw [List.drop_eq_nil_of_le h, glGo]

theorem glyphsR_good {f : Fnt} {l : List UInt8} (h1 : fontOk f = true) (h2 : wordOk l = true) : glyphsR f l = glGo f.ls l [] := by simp [glyphsR, h1, h2]
theorem glyphsR_bad1 {f : Fnt} {l : List UInt8} (h1 : fontOk f = false) : glyphsR f l = [] := by simp [glyphsR, h1]
theorem glyphsR_bad2 {f : Fnt} {l : List UInt8} (h1 : wordOk l = false) : glyphsR f l = [] := by simp [glyphsR, h1]

theorem FontP.lv {f : Fnt} (h : FontP f) : ValP 26 35 f.ls := h.2.2.2.2.2.2.2
theorem FontP.kv {f : Fnt} (h : FontP f) : ValP (-100) 100 f.ks := h.2.2.2.2.2.1.2
theorem FontP.lS {f : Fnt} (h : FontP f) : PairsS f.ls := h.2.2.2.2.2.2.1
theorem FontP.kS {f : Fnt} (h : FontP f) : PairsS f.ks := h.2.2.2.2.2.1.1

theorem glyphs_ok {f : Fnt} {l : List UInt8} (h1 : FontP f) (h2 : wordOk l = true) : glyOk (glGo f.ls l []) ∧ (glGo f.ls l []).length ≤ 20 := by
  obtain ⟨a, b, c⟩ := word_iff.1 h2
  have := glGo_ok h1.lv l [] a (fun x hx => by cases hx)
  refine ⟨this.1, Nat.le_trans this.2 ?_⟩
  simp
  omega

theorem glyphsR_len (f : Fnt) (l : List UInt8) : (glyphsR f l).length ≤ 20 := by
  cases h1 : fontOk f
  · simp [glyphsR_bad1 h1]
  · cases h2 : wordOk l
    · simp [glyphsR_bad2 h2]
    · rw [glyphsR_good h1 h2]
      exact (glyphs_ok (fontOk_iff.1 h1) h2).2

/-! ### Widths -/
def gwTo (f : Fnt) (l : List Int) : Nat → Int
  | 0 => 0
  | i + 1 => gwTo f l i + f.ws.getD (l.getD i 0).toNat 0 + (if 0 < i then (pval f.ks (l.getD (i - 1) 0) (l.getD i 0)).getD 0 else 0)
open Classical in
noncomputable def glyB (l : List Int) : Bool := decide (glyOk l)
theorem glyB_iff {l : List Int} : glyB l = true ↔ glyOk l := by simp [glyB]
noncomputable def gwR (f : Fnt) (l : List Int) : Int := if fontOk f && decide (l.length ≤ 20) && glyB l then gwTo f l l.length else 0
noncomputable def wwR (f : Fnt) (l : List UInt8) : Int := if fontOk f && wordOk l then max 0 (gwTo f (glGo f.ls l []) (glGo f.ls l []).length) else -1

theorem gwTo_step {f : Fnt} {l : List Int} {i : Nat} {x : Int} {y : Int} (hx : l[i]? = some x) (hy : f.ws[x.toNat]? = some y) : gwTo f l (i + 1) = gwTo f l i + y + (if 0 < i then (pval f.ks (l.getD (i - 1) 0) x).getD 0 else 0) := by
  rw [gwTo]
  have e : l.getD i 0 = x := by simp [List.getD, hx]
  have e2 : f.ws.getD x.toNat 0 = y := by simp [List.getD, hy]
  rw [e, e2]

theorem gwTo_bd {f : Fnt} {l : List Int} (h : FontP f) : ∀ i : Nat, -100 * (i : Int) ≤ gwTo f l i ∧ gwTo f l i ≤ 200 * (i : Int)
  | 0 => by simp [gwTo]
  | i + 1 => by
    have ih := gwTo_bd (l := l) h i
    rw [gwTo]
    have h1 : 0 ≤ f.ws.getD (l.getD i 0).toNat 0 ∧ f.ws.getD (l.getD i 0).toNat 0 ≤ 100 := by
      simp only [List.getD]
      cases hg : f.ws[(l[i]?.getD 0).toNat]? with
      | none => simp
      | some y => exact h.2.2.2.2.1 y (List.mem_of_getElem? hg)
    have h2 : -100 ≤ (if 0 < i then (pval f.ks (l.getD (i - 1) 0) (l.getD i 0)).getD 0 else 0) ∧ (if 0 < i then (pval f.ks (l.getD (i - 1) 0) (l.getD i 0)).getD 0 else 0) ≤ 100 := by
      split
      · cases hg : pval f.ks (l.getD (i - 1) 0) (l.getD i 0) with
        | none => simp
        | some v =>
          obtain ⟨p, hp, _, _, rfl⟩ := pval_mem hg
          exact h.kv p hp
      · omega
    omega

theorem wwR_bd (f : Fnt) (l : List UInt8) : -1 ≤ wwR f l ∧ wwR f l ≤ 4000 := by
  unfold wwR
  split
  · rename_i h
    simp only [Bool.and_eq_true] at h
    have h1 := fontOk_iff.1 h.1
    have h2 := gwTo_bd (l := glGo f.ls l []) h1 (glGo f.ls l []).length
    have h3 := (glyphs_ok h1 h.2).2
    omega
  · omega

end Go.Proofs.Ytdenlafdbfbkoaa
