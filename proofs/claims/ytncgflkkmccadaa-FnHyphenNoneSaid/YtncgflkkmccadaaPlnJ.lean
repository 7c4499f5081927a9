/- A pattern's letters and values make up the pattern. No program in sight. -/
import Derived.Test.YtncgflkkmccadaaPlnH
import Derived.Test.YtncgflkkmccadaaMarkS
namespace Go.Proofs.Ytncgflkkmccadaa
open Go.RowKit
set_option linter.unusedVariables false
set_option linter.unusedSimpArgs false

def dgt (v : Int) : List UInt8 := if 0 < v then asBytes [48 + v] else []

def bk (vs : List Int) (ls : List UInt8) : Nat → List UInt8
  | 0 => []
  | k + 1 => bk vs ls k ++ (dgt (vs.getD k 0) ++ ls[k]?.toList)

theorem bk_congr {vs vs' : List Int} {ls ls' : List UInt8} : ∀ k, (∀ j, j < k → vs.getD j 0 = vs'.getD j 0 ∧ ls[j]? = ls'[j]?) → bk vs ls k = bk vs' ls' k
  | 0, _ => rfl
  | k + 1, h => by
    rw [bk, bk, bk_congr k (fun j hj => h j (by omega)), (h k (by omega)).1, (h k (by omega)).2]

theorem dgt_len (v : Int) : (dgt v).length ≤ 1 := by
  unfold dgt
  split <;> simp [asBytes]

theorem bk_len (vs : List Int) (ls : List UInt8) : ∀ k, (bk vs ls k).length ≤ 2 * k
  | 0 => by simp [bk]
  | k + 1 => by
    have := bk_len vs ls k
    have h2 := dgt_len (vs.getD k 0)
    have h3 : (ls[k]?.toList).length ≤ 1 := by cases ls[k]? <;> simp
    simp only [bk, List.length_append]
    omega

theorem dgt_byte {c : UInt8} (h : 49 ≤ (c.toNat : Int)) : dgt ((c.toNat : Int) - 48) = [c] := by
  unfold dgt
  rw [if_pos (by omega)]
  have : (48 + ((c.toNat : Int) - 48)).toNat = c.toNat := by omega
  simp [asBytes, this]

theorem pGo_bk {n : Nat} : ∀ (r : List UInt8) (i : Nat) (s t : Pst) (pre : List UInt8), pGo n i r s = some t → s.vs.length = s.ls.length + 1 → (s.dg = false → s.vs.getD (s.vs.length - 1) 0 = 0) → bk s.vs s.ls s.vs.length = pre → bk t.vs t.ls t.vs.length = pre ++ r
  | [], i, s, t, pre, h, h1, h2, h3 => by
    simp only [pGo, Option.some.injEq] at h
    subst h
    simpa using h3
  | c :: r, i, ⟨ls, vs, dg⟩, t, pre, h, h1, h2, h3 => by
    simp only at h1 h2 h3
    rw [pGo] at h
    obtain ⟨u, hu, ht⟩ := Option.bind_eq_some_iff.1 h
    obtain ⟨m, hm⟩ : ∃ m, vs.length = m + 1 := ⟨ls.length, h1⟩
    have hml : ls.length = m := by omega
    rw [hm, bk] at h3
    have hn : ls[m]? = none := List.getElem?_eq_none (by omega)
    rw [hn] at h3
    have hpre : pre ++ c :: r = (pre ++ [c]) ++ r := by simp
    rw [hpre]
    simp only [pStep] at hu
    split at hu
    · rename_i hd
      obtain ⟨d1, d2, d3⟩ := hd
      cases hu
      refine pGo_bk r (i + 1) _ t _ ht (by simpa using h1) (by simp) ?_
      have h4 := h2 d3
      rw [hm, Nat.add_sub_cancel] at h4
      rw [h4] at h3
      simp only [dgt] at h3
      simp only [List.length_set, hm, bk, hn, Nat.add_sub_cancel]
      have e1 : bk (vs.set m ((c.toNat : Int) - 48)) ls m = bk vs ls m := bk_congr m fun j hj => ⟨by
        simp only [List.getD_eq_getElem?_getD]
        rw [List.getElem?_set_ne (by omega)], rfl⟩
      have e2 : (vs.set m ((c.toNat : Int) - 48)).getD m 0 = (c.toNat : Int) - 48 := by
        simp only [List.getD_eq_getElem?_getD]
        rw [List.getElem?_set_self (by omega)]
        rfl
      rw [e1, e2, dgt_byte d1]
      simp at h3
      rw [h3]
      simp
    · split at hu
      · cases hu
        refine pGo_bk r (i + 1) _ t _ ht (by simp [h1]) (by simp [List.getD_eq_getElem?_getD]) ?_
        simp only [List.length_append, List.length_singleton, hm]
        have e1 : bk (vs ++ [0]) (ls ++ [c]) m = bk vs ls m := bk_congr m fun j hj => ⟨by
          simp only [List.getD_eq_getElem?_getD]
          rw [List.getElem?_append_left (by omega)], by rw [List.getElem?_append_left (by omega)]⟩
        have e2 : (vs ++ [0]).getD m 0 = vs.getD m 0 := by
          simp only [List.getD_eq_getElem?_getD]
          rw [List.getElem?_append_left (by omega)]
        have e3 : (vs ++ [0]).getD (m + 1) 0 = 0 := by
          simp only [List.getD_eq_getElem?_getD]
          rw [List.getElem?_append_right (by omega), hm]
          simp
        have e4 : (ls ++ [c])[m]? = some c := by
          rw [List.getElem?_append_right (by omega), hml]
          simp
        have e5 : (ls ++ [c])[m + 1]? = none := List.getElem?_eq_none (by simp; omega)
        simp only [bk, e1, e2, e3, e4, e5]
        simp only [Option.toList_none, List.append_nil] at h3
        rw [← h3]
        simp [dgt]
      · cases hu

theorem pat_join {l : List UInt8} (h : pOk l = true) : bk (pVals l) (pChars l) (pVals l).length = l := by
  cases hr : pRun l with
  | none => have := pOk_none hr; rw [this.1] at h; cases h
  | some s =>
    cases hb : inR s.ls.length 1 20
    · have := pOk_bad hr hb; rw [this.1] at h; cases h
    · obtain ⟨_, e1, e2⟩ := pOk_good hr hb
      rw [e1, e2]
      have := pGo_bk l 0 ⟨[], [0], false⟩ s [] hr rfl (fun _ => rfl) rfl
      simpa using this

end Go.Proofs.Ytncgflkkmccadaa
