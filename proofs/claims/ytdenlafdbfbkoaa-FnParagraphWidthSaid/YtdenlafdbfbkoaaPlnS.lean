/- Words and their parts. No program in sight. -/
import Derived.Test.YtdenlafdbfbkoaaLib
namespace Go.Proofs.Ytdenlafdbfbkoaa
open Go.RowKit
set_option linter.unusedVariables false
set_option linter.unusedSimpArgs false

def lowB (u : UInt8) : Bool := decide (97 ≤ (u.toNat : Int)) && decide ((u.toNat : Int) ≤ 122)
def wordOk (l : List UInt8) : Bool := l.all lowB && inR l.length 1 20

def cut (l : List UInt8) (f t : Int) : List UInt8 := (l.drop f.toNat).take (t.toNat - f.toNat)

/-- The parts from a place on. -/
def splitGo (l : List UInt8) : Int → List Int → Option (List (List UInt8))
  | f, [] => some [l.drop f.toNat]
  | f, p :: ps => if p ≤ f ∨ (l.length : Int) ≤ p then none else (splitGo l p ps).map (cut l f p :: ·)

def splitR (l : List UInt8) (ps : List Int) : List (List UInt8) := if wordOk l then (splitGo l 0 ps).getD [] else []

theorem word_iff {l : List UInt8} : wordOk l = true ↔ (∀ u ∈ l, lowB u = true) ∧ 1 ≤ l.length ∧ l.length ≤ 20 := by
  simp [wordOk, inR, List.all_eq_true]
  omega

theorem word_bad {l : List UInt8} {i : Nat} {u : UInt8} (hu : l[i]? = some u) (h : lowB u = false) : wordOk l = false := by
  cases hw : wordOk l
  · rfl
  · have := (word_iff.1 hw).1 u (List.mem_of_getElem? hu)
    rw [h] at this
    cases this

theorem split_last {l : List UInt8} {f : Int} : splitGo l f [] = some [l.drop f.toNat] := rfl

theorem split_step {l : List UInt8} {f p : Int} {ps : List Int} {i : Nat} (hp : ps[i]? = some p) : splitGo l f (ps.drop i) = if p ≤ f ∨ (l.length : Int) ≤ p then none else (splitGo l p (ps.drop (i + 1))).map (cut l f p :: ·) := by
  have hl := (List.getElem?_eq_some_iff.1 hp).1
  have e : ps.drop i = p :: ps.drop (i + 1) := by
    rw [List.drop_eq_getElem_cons hl]
    congr 1
    exact (List.getElem?_eq_some_iff.1 hp).2
  rw [e, splitGo]

theorem split_len {l : List UInt8} : ∀ (ps : List Int) (f : Int) (r : List (List UInt8)), 0 ≤ f → f < l.length → splitGo l f ps = some r → r.length = ps.length + 1 ∧ (ps.length : Int) + f < l.length
  | [], f, r, h0, h1, h => by
    simp only [splitGo, Option.some.injEq] at h
    subst h
    exact ⟨rfl, by simpa using h1⟩
  | p :: ps, f, r, h0, h1, h => by
    rw [splitGo] at h
    split at h
    · cases h
    · obtain ⟨r2, hr, rfl⟩ := Option.map_eq_some_iff.1 h
      have := split_len ps p r2 (by omega) (by omega) hr
      simp only [List.length_cons]
      omega

theorem splitR_len (l : List UInt8) (ps : List Int) : (splitR l ps).length ≤ 60 := by
  unfold splitR
  split
  · rename_i hw
    obtain ⟨_, h1, h2⟩ := word_iff.1 hw
    cases h : splitGo l 0 ps with
    | none => simp
    | some r =>
      have := split_len ps 0 r (by omega) (by omega) h
      simp only [Option.getD_some]
      omega
  · simp

end Go.Proofs.Ytdenlafdbfbkoaa
