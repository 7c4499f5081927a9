/- Marks on items; own slices that are marked. -/
import Derived.Test.YtncgflkkmccadaaMark
namespace Go.Proofs.Ytncgflkkmccadaa
open Go.RowKit
set_option linter.unusedVariables false
set_option linter.unusedSimpArgs false
theorem Ow.wr2 {α : Type} {w : World} {base : Nat} {e : TypeId} {sz : Nat} {enc : α → List Value} {A : Option Addr} {c : Nat} {xs : List α} (h : Ow w base e sz enc A c xs) (b0 : Nat) (hb : b0 < base) (hz : base ≤ w.heap.size) : ∃ b, (b = b0 ∨ base ≤ b) ∧ b < w.heap.size ∧ Wr w A xs.length sz b (xs.flatMap enc) := by
  rcases h.row.2 with ⟨_, h0⟩ | ⟨q, cap, cur, he, hb, hg, hle, hm, hsz, htk⟩
  · exact ⟨b0, .inl rfl, by omega, .inl h0⟩
  · refine ⟨q, .inr hb, (Array.getElem?_eq_some_iff.1 hg).1, .inr ⟨by cases he; rfl, cur.toList, ⟨e, by simpa using hg⟩, ?_, htk⟩⟩
    simp only [Array.length_toList, hsz]
    exact Nat.mul_le_mul_right _ hle

set_option maxHeartbeats 1000000
attribute [local irreducible] W WL QV ST RV Th Bl fnPost Cs Bx pp ea Calls
set_option maxRecDepth 100000

/-- The mark on an item. -/
def mkT (k : Int) (i : Nat) : Item := ⟨k + 6 * (i : Int), ⟨k + 6 * (i : Int) + 1, k + 6 * (i : Int) + 1 + 1, k + 6 * (i : Int) + 1 + 1 + 1⟩, k + 6 * (i : Int) + 1 + 1 + 1 + 1, (k + 6 * (i : Int) + 1 + 1 + 1 + 1 + 1) % 3 == 0⟩
def cntT (k : Int) (n : Nat) : List Item := (List.range n).map (mkT k)
theorem cntT_len (k : Int) (n : Nat) : (cntT k n).length = n := by simp [cntT]
theorem cntT_get {k : Int} {n i : Nat} (h : i < n) : (cntT k n)[i]? = some (mkT k i) := by simp [cntT, h]

theorem flatT_len (xs : List Item) : (xs.flatMap encT).length = xs.length * 6 := by
  induction xs with
  | nil => simp
  | cons x xs ih => simp only [List.flatMap_cons, List.length_append, ih, List.length_cons, Nat.add_mul]; simp [encT]; omega

theorem splice6 {ds : List Value} {o : Nat} {a b c d e f : Value} (h : o + 6 ≤ ds.length) :
    splice (splice (splice (splice (splice (splice ds o [a]) (o + 1) [b]) (o + 2) [c]) (o + 3) [d]) (o + 4) [e]) (o + 5) [f] = splice ds o [a, b, c, d, e, f] := by
  have e1 := splice_splice (ds := ds) (o := o) (us := [a]) (vs := [b]) (by simp; omega)
  have e2 := splice_splice (ds := ds) (o := o) (us := [a, b]) (vs := [c]) (by simp; omega)
  have e3 := splice_splice (ds := ds) (o := o) (us := [a, b, c]) (vs := [d]) (by simp; omega)
  have e4 := splice_splice (ds := ds) (o := o) (us := [a, b, c, d]) (vs := [e]) (by simp; omega)
  have e5 := splice_splice (ds := ds) (o := o) (us := [a, b, c, d, e]) (vs := [f]) (by simp; omega)
  simp only [List.length_cons, List.length_nil, Nat.zero_add, List.cons_append, List.nil_append, Nat.reduceAdd] at e1 e2 e3 e4 e5
  rw [e1, e2, e3, e4, e5]

theorem Wr.slc {w : World} {B : Option Addr} {n b : Nat} {k : Int} (h : Wr w B n 1 b ((cnt k n).flatMap encI)) : Sl w B 1 encI (cnt k n) := by
  have h2 : Wr w B (cnt k n).length 1 b ((cnt k n).flatMap encI) := by rw [cnt_len]; exact h
  exact h2.sl (fun _ => rfl)

end Go.Proofs.Ytncgflkkmccadaa
