/- Patterns and the values between the letters of a word. No program in sight. -/
import Derived.Test.YtdenlafdbfbkoaaPlnS
namespace Go.Proofs.Ytdenlafdbfbkoaa
open Go.RowKit
set_option linter.unusedVariables false
set_option linter.unusedSimpArgs false

structure Pst where
  ls : List UInt8
  vs : List Int
  dg : Bool

def pStep (n i : Nat) (c : UInt8) (s : Pst) : Option Pst :=
  if 49 ≤ (c.toNat : Int) ∧ (c.toNat : Int) ≤ 57 ∧ s.dg = false then some ⟨s.ls, s.vs.set (s.vs.length - 1) ((c.toNat : Int) - 48), true⟩
  else if lowB c = true ∨ ((c.toNat : Int) = 46 ∧ (i = 0 ∨ i + 1 = n)) then some ⟨s.ls ++ [c], s.vs ++ [0], false⟩
  else none

def pGo (n : Nat) : Nat → List UInt8 → Pst → Option Pst
  | _, [], s => some s
  | i, c :: r, s => (pStep n i c s).bind (pGo n (i + 1) r)

def pRun (l : List UInt8) : Option Pst := pGo l.length 0 l ⟨[], [0], false⟩

def pOk (l : List UInt8) : Bool := match pRun l with
  | some s => inR s.ls.length 1 20
  | none => false
def pChars (l : List UInt8) : List UInt8 := if pOk l then ((pRun l).map (·.ls)).getD [] else []
def pVals (l : List UInt8) : List Int := if pOk l then ((pRun l).map (·.vs)).getD [] else []

theorem pStep_dig {n i : Nat} {c : UInt8} {ls : List UInt8} {vs : List Int} (h1 : 49 ≤ (c.toNat : Int)) (h2 : (c.toNat : Int) ≤ 57) : pStep n i c ⟨ls, vs, false⟩ = some ⟨ls, vs.set (vs.length - 1) ((c.toNat : Int) - 48), true⟩ := by
  unfold pStep
  rw [if_pos ⟨h1, h2, rfl⟩]

theorem pStep_let {n i : Nat} {c : UInt8} {ls : List UInt8} {vs : List Int} {dg : Bool} (h : lowB c = true ∨ ((c.toNat : Int) = 46 ∧ (i = 0 ∨ i + 1 = n))) : pStep n i c ⟨ls, vs, dg⟩ = some ⟨ls ++ [c], vs ++ [0], false⟩ := by
  unfold pStep
  rw [if_neg, if_pos h]
  rintro ⟨h1, h2, _⟩
  rcases h with h | ⟨h, _⟩
  · simp [lowB] at h
    omega
  · omega

theorem pStep_no {n i : Nat} {c : UInt8} {ls : List UInt8} {vs : List Int} {dg : Bool} (h0 : ¬ (49 ≤ (c.toNat : Int) ∧ (c.toNat : Int) ≤ 57 ∧ dg = false)) (h1 : lowB c = false) (h2 : ¬ ((c.toNat : Int) = 46 ∧ (i = 0 ∨ i + 1 = n))) : pStep n i c ⟨ls, vs, dg⟩ = none := by
  unfold pStep
  rw [if_neg h0, if_neg]
  rintro (h | h)
  · rw [h1] at h; cases h
  · exact h2 h

/-- One step of the whole. -/
theorem pRun_step {l : List UInt8} {i : Nat} {c : UInt8} {s : Pst} (h : pRun l = pGo l.length i (l.drop i) s) (hc : l[i]? = some c) : pRun l = (pStep l.length i c s).bind (pGo l.length (i + 1) (l.drop (i + 1))) := by
  have hi := (List.getElem?_eq_some_iff.1 hc).1
  have e : l.drop i = c :: l.drop (i + 1) := by
    rw [List.drop_eq_getElem_cons hi]
    congr 1
    exact (List.getElem?_eq_some_iff.1 hc).2
  rw [h, e, pGo]

theorem pRun_some {l : List UInt8} {i : Nat} {c : UInt8} {s t : Pst} (h : pRun l = pGo l.length i (l.drop i) s) (hc : l[i]? = some c) (hs : pStep l.length i c s = some t) : pRun l = pGo l.length (i + 1) (l.drop (i + 1)) t := by
  rw [pRun_step h hc, hs]; rfl

theorem pRun_none {l : List UInt8} {i : Nat} {c : UInt8} {s : Pst} (h : pRun l = pGo l.length i (l.drop i) s) (hc : l[i]? = some c) (hs : pStep l.length i c s = none) : pRun l = none := by
  rw [pRun_step h hc, hs]; rfl

theorem pRun_end {l : List UInt8} {i : Nat} {s : Pst} (h : pRun l = pGo l.length i (l.drop i) s) (hi : l.length ≤ i) : pRun l = some s := by
  rw [h, List.drop_eq_nil_of_le hi, pGo]

theorem pOk_none {l : List UInt8} (h : pRun l = none) : pOk l = false ∧ pChars l = [] ∧ pVals l = [] := by
  have : pOk l = false := by simp [pOk, h]
  exact ⟨this, by simp [pChars, this], by simp [pVals, this]⟩

theorem pOk_bad {l : List UInt8} {s : Pst} (h : pRun l = some s) (hb : inR s.ls.length 1 20 = false) : pOk l = false ∧ pChars l = [] ∧ pVals l = [] := by
  have : pOk l = false := by simp [pOk, h, hb]
  exact ⟨this, by simp [pChars, this], by simp [pVals, this]⟩

theorem pOk_good {l : List UInt8} {s : Pst} (h : pRun l = some s) (hb : inR s.ls.length 1 20 = true) : pOk l = true ∧ pChars l = s.ls ∧ pVals l = s.vs := by
  have : pOk l = true := by simp [pOk, h, hb]
  exact ⟨this, by simp [pChars, this, h], by simp [pVals, this, h]⟩

/-- What holds of a run's state. -/
theorem pStep_inv {n i : Nat} {c : UInt8} {s t : Pst} (h : pStep n i c s = some t) (h1 : s.vs.length = s.ls.length + 1) (h2 : ∀ v ∈ s.vs, 0 ≤ v ∧ v ≤ 9) : t.vs.length = t.ls.length + 1 ∧ (∀ v ∈ t.vs, 0 ≤ v ∧ v ≤ 9) ∧ t.ls.length ≤ s.ls.length + 1 := by
  unfold pStep at h
  split at h
  · rename_i hd
    cases h
    refine ⟨by simpa using h1, fun v hv => ?_, by simp⟩
    rcases List.mem_or_eq_of_mem_set hv with hv | rfl
    · exact h2 v hv
    · omega
  · split at h
    · cases h
      refine ⟨by simp [h1], fun v hv => ?_, by simp⟩
      simp only [List.mem_append, List.mem_singleton] at hv
      rcases hv with hv | rfl
      · exact h2 v hv
      · omega
    · cases h

theorem pGo_inv {n : Nat} : ∀ (r : List UInt8) (i : Nat) (s t : Pst), pGo n i r s = some t → s.vs.length = s.ls.length + 1 → (∀ v ∈ s.vs, 0 ≤ v ∧ v ≤ 9) → t.vs.length = t.ls.length + 1 ∧ (∀ v ∈ t.vs, 0 ≤ v ∧ v ≤ 9)
  | [], i, s, t, h, h1, h2 => by
    simp only [pGo, Option.some.injEq] at h
    subst h
    exact ⟨h1, h2⟩
  | c :: r, i, s, t, h, h1, h2 => by
    rw [pGo] at h
    obtain ⟨u, hu, ht⟩ := Option.bind_eq_some_iff.1 h
    obtain ⟨a, b, _⟩ := pStep_inv hu h1 h2
    exact pGo_inv r (i + 1) u t ht a b

theorem pOk_facts {l : List UInt8} (h : pOk l = true) : 1 ≤ (pChars l).length ∧ (pChars l).length ≤ 20 ∧ (pVals l).length = (pChars l).length + 1 ∧ ∀ v ∈ pVals l, 0 ≤ v ∧ v ≤ 9 := by
  cases hr : pRun l with
  | none => have := pOk_none hr; rw [this.1] at h; cases h
  | some s =>
    cases hb : inR s.ls.length 1 20
    · have := pOk_bad hr hb; rw [this.1] at h; cases h
    · obtain ⟨_, e1, e2⟩ := pOk_good hr hb
      obtain ⟨a, b⟩ := pGo_inv l 0 _ s hr (by simp) (by simp)
      rw [e1, e2]
      have := inR_iff.1 hb
      exact ⟨by omega, by omega, a, b⟩

theorem pVals_len (l : List UInt8) : (pVals l).length ≤ 21 ∧ (pChars l).length ≤ 20 := by
  cases h : pOk l
  · constructor <;> simp [pVals, pChars, h]
  · have := pOk_facts h
    omega

end Go.Proofs.Ytdenlafdbfbkoaa
