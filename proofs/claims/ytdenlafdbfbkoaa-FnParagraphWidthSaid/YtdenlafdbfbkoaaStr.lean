/- The engine's rules: strings. No program in sight. -/
import Derived.Test.YtdenlafdbfbkoaaOpt
import Derived.Laws.Strings
import Derived.Laws.Strings2
import Derived.Laws.Concat
import Derived.Laws.BytesString
namespace Go.Proofs.Ytdenlafdbfbkoaa
open Go.RowKit
set_option linter.unusedVariables false
set_option linter.unusedSimpArgs false

section
variable {P : Program} {n : Nat} {s : St} {w : World} {d : Option Tmp} {ty : TypeId} {pos : String} {af : Array Edge} {g : Option (Nat × Bool)}

theorem q_lenT {x : Operand} {t : TypeId} [hk : KStr P t] {l : List UInt8} (hx : ev s x = some (str l)) :
    QV P n s w ⟨d, .call { callee := .builtin .len, args := #[x], argTypes := #[t] }, ty, pos, af, g⟩ (.int .i64 (l.length : Int)) := by
  have h := q_lenS (P := P) (n := n) (s := s) (w := w) (d := d) (ty := ty) (pos := pos) (af := af) (g := g) (t := t) (b := ⟨l.toArray⟩) hx
  have e : (⟨l.toArray⟩ : ByteArray).size = l.length := by simp [ByteArray.size]
  rw [e] at h
  exact h

theorem str_get {l : List UInt8} {i : Nat} {u : UInt8} (h : l[i]? = some u) : (⟨l.toArray⟩ : ByteArray)[i]? = some u := by
  have hl := (List.getElem?_eq_some_iff.1 h).1
  have hs : i < (⟨l.toArray⟩ : ByteArray).size := by simpa [ByteArray.size] using hl
  rw [ByteArray.getElem?_lt' _ _ hs]
  have := (List.getElem?_eq_some_iff.1 h).2
  rw [← this]
  rfl

theorem q_indexT (u : UInt8) {x y : Operand} {t : TypeId} [hk : KStr P t] {l : List UInt8} {k : IntKind} {i : Int} (hx : ev s x = some (str l)) (hy : ev s y = some (.int k i)) (h0 : 0 ≤ i) (hu : l[i.toNat]? = some u) :
    QV P n s w ⟨d, .index t x y, ty, pos, af, g⟩ (.int .u8 (u.toNat : Int)) := fun a ha => by
  have hg := str_get hu
  simp only [execOp, ha.ev hx, ha.ev hy, str, Sem.run_bind]
  simp [Instr.index, asIntOf, run_underlying hk.h, h0, hg]

theorem q_sliceT {x lo hi : Operand} {t : TypeId} [hk : KStr P t] {l : List UInt8} {k1 k2 : IntKind} {i j : Int} (hx : ev s x = some (str l)) (hl : ev s lo = some (.int k1 i)) (hh : ev s hi = some (.int k2 j)) (h0 : 0 ≤ i) (h1 : i ≤ j) (h2 : j ≤ (l.length : Int)) :
    QV P n s w ⟨d, .slice t x (some lo) (some hi) none, ty, pos, af, g⟩ (str ((l.drop i.toNat).take (j.toNat - i.toNat))) := fun a ha => by
  have e : (⟨l.toArray⟩ : ByteArray).size = l.length := by simp [ByteArray.size]
  have e2 := ByteArray.extract_mk l i.toNat j.toNat
  simp only [execOp, Option.map_some, Option.map_none, ha.ev hx, ha.ev hl, ha.ev hh, str, Sem.run_bind]
  simp [Instr.sliceAt, Instr.slice, run_underlying hk.h, Instr.sliceBounds, Instr.sliceBound, asIntOf, e, h0, h1, h2, show 0 ≤ j by omega, show i ≤ (j.toNat : Int) by omega, e2]
  intro hh
  exfalso
  omega

theorem q_sliceFromT {x lo : Operand} {t : TypeId} [hk : KStr P t] {l : List UInt8} {k1 : IntKind} {i : Int} (hx : ev s x = some (str l)) (hl : ev s lo = some (.int k1 i)) (h0 : 0 ≤ i) (h1 : i ≤ (l.length : Int)) :
    QV P n s w ⟨d, .slice t x (some lo) none none, ty, pos, af, g⟩ (str (l.drop i.toNat)) := fun a ha => by
  have e : (⟨l.toArray⟩ : ByteArray).size = l.length := by simp [ByteArray.size]
  have e2 := ByteArray.extract_mk l i.toNat l.length
  have e3 : (l.drop i.toNat).take (l.length - i.toNat) = l.drop i.toNat := List.take_of_length_le (by simp)
  rw [e3] at e2
  simp only [execOp, Option.map_some, Option.map_none, ha.ev hx, ha.ev hl, str, Sem.run_bind]
  simp [Instr.sliceAt, Instr.slice, run_underlying hk.h, Instr.sliceBounds, Instr.sliceBound, asIntOf, e, h0, h1, e2]

theorem q_catT {x y : Operand} {t t2 : TypeId} {l m : List UInt8} (hx : ev s x = some (str l)) (hy : ev s y = some (str m)) (h : l.length + m.length ≤ 9223372036854775807) :
    QV P n s w ⟨d, .binOp .add t x y t2, ty, pos, af, g⟩ (str (l ++ m)) := fun a ha => by
  have e := run_string_add_sum (P := P) (w := w) ⟨l.toArray⟩ ⟨m.toArray⟩ (by simpa [ByteArray.size] using h)
  rw [ByteArray.mk_append_mk] at e
  simp only [execOp, ha.ev hx, ha.ev hy, str, Sem.run_bind]
  simp [eqGuard, binOp_string_add, e]

theorem q_eqlT {x y : Operand} {t t2 : TypeId} {l m : List UInt8} (hx : ev s x = some (str l)) (hy : ev s y = some (str m)) :
    QV P n s w ⟨d, .binOp .eql t x y t2, ty, pos, af, g⟩ (.bool (decide (l = m))) := fun a ha => by
  simp only [execOp, ha.ev hx, ha.ev hy, str, Sem.run_bind]
  simp [eqGuard, binOp_string_eql]
  by_cases h : l = m <;> simp [h]

theorem q_eqlT1 {x y : Operand} {t t2 : TypeId} {l m : List UInt8} (hx : ev s x = some (str l)) (hy : ev s y = some (str m)) (e : l = m) :
    QV P n s w ⟨d, .binOp .eql t x y t2, ty, pos, af, g⟩ (.bool true) := by
  have := q_eqlT (P := P) (n := n) (w := w) (d := d) (t := t) (t2 := t2) (ty := ty) (pos := pos) (af := af) (g := g) hx hy
  simpa [e] using this

theorem q_eqlT0 {x y : Operand} {t t2 : TypeId} {l m : List UInt8} (hx : ev s x = some (str l)) (hy : ev s y = some (str m)) (e : l ≠ m) :
    QV P n s w ⟨d, .binOp .eql t x y t2, ty, pos, af, g⟩ (.bool false) := by
  have := q_eqlT (P := P) (n := n) (w := w) (d := d) (t := t) (t2 := t2) (ty := ty) (pos := pos) (af := af) (g := g) hx hy
  simpa [e] using this

theorem q_neqT {x y : Operand} {t t2 : TypeId} {l m : List UInt8} (hx : ev s x = some (str l)) (hy : ev s y = some (str m)) :
    QV P n s w ⟨d, .binOp .neq t x y t2, ty, pos, af, g⟩ (.bool (!decide (l = m))) := fun a ha => by
  simp only [execOp, ha.ev hx, ha.ev hy, str, Sem.run_bind]
  simp [eqGuard, binOp_string_neq]
  by_cases h : l = m <;> simp [h]

theorem q_neqT1 {x y : Operand} {t t2 : TypeId} {l m : List UInt8} (hx : ev s x = some (str l)) (hy : ev s y = some (str m)) (e : l = m) :
    QV P n s w ⟨d, .binOp .neq t x y t2, ty, pos, af, g⟩ (.bool false) := by
  have := q_neqT (P := P) (n := n) (w := w) (d := d) (t := t) (t2 := t2) (ty := ty) (pos := pos) (af := af) (g := g) hx hy
  simpa [e] using this

theorem q_neqT0 {x y : Operand} {t t2 : TypeId} {l m : List UInt8} (hx : ev s x = some (str l)) (hy : ev s y = some (str m)) (e : l ≠ m) :
    QV P n s w ⟨d, .binOp .neq t x y t2, ty, pos, af, g⟩ (.bool true) := by
  have := q_neqT (P := P) (n := n) (w := w) (d := d) (t := t) (t2 := t2) (ty := ty) (pos := pos) (af := af) (g := g) hx hy
  simpa [e] using this

end
end Go.Proofs.Ytdenlafdbfbkoaa
