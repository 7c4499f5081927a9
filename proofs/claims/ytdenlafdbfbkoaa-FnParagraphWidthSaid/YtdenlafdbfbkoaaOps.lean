/- The engine's rules for the operations. No program in sight. -/
import Derived.Test.YtdenlafdbfbkoaaEng
import Derived.Laws.MakeOwn
import Derived.Laws.OwnMore
namespace Go.Proofs.Ytdenlafdbfbkoaa
open Go.RowKit
set_option linter.unusedVariables false
set_option linter.unusedSimpArgs false

/-! ### What is known of types -/
class KSl (P : Program) (t : TypeId) (e : outParam TypeId) : Prop where h : P.underlying t = some (.slice e)
class KStr (P : Program) (t : TypeId) : Prop where h : P.underlying t = some .string
class KInt (P : Program) (t : TypeId) (k : outParam IntKind) : Prop where h : P.underlying t = some (.int k)
class KOne (P : Program) (t : TypeId) : Prop where h : ∀ w, (isAgg t).run P w = .ok false w
class KAgg (P : Program) (t : TypeId) (m : outParam Nat) : Prop where
  h : ∀ w, (isAgg t).run P w = .ok true w
  sz : ∀ w, (sizeOf t).run P w = .ok m w
class KSz (P : Program) (t : TypeId) (m : outParam Nat) : Prop where sz : ∀ w, (sizeOf t).run P w = .ok m w
class KZ (P : Program) (t : TypeId) (z : outParam Value) (zs : outParam (List Value)) : Prop where
  hz : ∀ w, (zeroValue t).run P w = .ok z w
  hc : z.cells = zs.toArray
class KFld (P : Program) (t : TypeId) (f : Nat) (off : outParam Nat) : Prop where
  h : ∀ w a, (Instr.fieldAt t (.pointer (some a)) f).run P w = .ok (.pointer (some (a.add off))) w
/-- The row of a type: its size in cells, its bytes, its zero. -/
class KRow (P : Program) (e : TypeId) (sz bytes : outParam Nat) (z : outParam Value) : Prop where
  h : ∃ i, P.info? e = some i ∧ i.zero = some z ∧ i.size = sz ∧ i.bytes = bytes
  zsz : z.cells.size = sz
  pos : 0 < sz

/-! ### Memory -/
abbrev Gr (w w' : World) : Prop := Below w.heap.size w w'

theorem Gr.refl (w : World) : Gr w w := Below.refl _ _
theorem Gr.trans {a b c : World} (h : Gr a b) (k : Gr b c) : Gr a c := Below.trans h (k.mono h.size)
theorem Gr.alloc (w : World) (o : Obj) : Gr w (w.alloc o) := Below.alloc (Below.refl _ _) (Nat.le_refl _) o
theorem Gr.drew (w : World) : Gr w w.drew := Below.drew (Below.refl _ _)
theorem Gr.grown {w w' : World} (h : w.grownBy w' none) : Gr w w' := ⟨h.os, h.tape, h.output, h.size, fun k hk => h.block k hk (by simp)⟩

/-- Pointer to a place k cells behind an address. -/
def pp (a : Addr) (k : Nat) : Value := .pointer (some (a.add k))

/-- The cells at an address. -/
def Cs (w : World) (a : Addr) (cs : List Value) : Prop := ∀ j u, cs[j]? = some u → w.cell? (a.add j) = some u

/-- A block that is known whole and may be written. -/
def Bx (w : World) (b : Nat) (cs : List Value) : Prop := ∃ ty, w.heap[b]? = some (.cells cs.toArray ty (0, 0))

theorem add_mid (b o j : Nat) : (⟨b, o, none⟩ : Addr).add j = ⟨b, o + j, none⟩ := by unfold Addr.add; split <;> simp_all
theorem add_block (a : Addr) (j : Nat) : (a.add j).block = a.block := by unfold Addr.add; split <;> rfl

theorem Bx.cs {w : World} {b : Nat} {cs : List Value} (h : Bx w b cs) : Cs w ⟨b, 0, none⟩ cs := by
  obtain ⟨ty, h⟩ := h
  intro j u hu
  rw [add_mid]
  simp only [World.cell?, h, Nat.zero_add]
  simpa using hu

theorem Bx.lt {w : World} {b : Nat} {cs : List Value} (h : Bx w b cs) : b < w.heap.size := by
  obtain ⟨ty, h⟩ := h
  exact (Array.getElem?_eq_some_iff.1 h).1

theorem Bx.gr {w w' : World} {b : Nat} {cs : List Value} (g : Gr w w') (h : Bx w b cs) : Bx w' b cs := by
  have := h.lt
  obtain ⟨ty, h⟩ := h
  exact ⟨ty, (g.block b this).trans h⟩

theorem Bx.mv {w w' : World} {b c : Nat} {cs : List Value} (g : w.grownBy w' (some c)) (hne : b ≠ c) (h : Bx w b cs) : Bx w' b cs := by
  have := h.lt
  obtain ⟨ty, h⟩ := h
  exact ⟨ty, (g.block b this (by simpa using hne)).trans h⟩

theorem Cs.gr {w w' : World} {a : Addr} {cs : List Value} (g : Gr w w') (h : Cs w a cs) : Cs w' a cs := fun j u hu => by
  have h1 := h j u hu
  have hlt := World.block_lt_of_cell? w _ h1
  exact (World.cell?_of_block (g.block _ hlt)).trans h1

theorem Cs.mv {w w' : World} {a : Addr} {c : Nat} {cs : List Value} (g : w.grownBy w' (some c)) (hne : a.block ≠ c) (h : Cs w a cs) : Cs w' a cs := fun j u hu =>
  g.cell (h j u hu) (by rw [add_block]; simpa using hne)

/-- The place of the elements of a slice's array. -/
def ea (A : Option Addr) (m : Nat) : Addr := (A.getD default).add m

theorem add_add (a : Addr) (m n : Nat) : (a.add m).add n = a.add (m + n) := Addr.add_add a m n

/-- A slice that reads as a list. -/
structure Sl {α : Type} (w : World) (A : Option Addr) (sz : Nat) (enc : α → List Value) (xs : List α) : Prop where
  nn : 0 < xs.length → A.isSome = true
  el : ∀ (i : Nat) (x : α), xs[i]? = some x → Cs w (ea A (i * sz)) (enc x)

theorem Sl.gr {α : Type} {w w' : World} {A : Option Addr} {sz : Nat} {enc : α → List Value} {xs : List α} (g : Gr w w') (h : Sl w A sz enc xs) : Sl w' A sz enc xs :=
  ⟨h.nn, fun i x hx => (h.el i x hx).gr g⟩

theorem Sl.nil {α : Type} {w : World} {A : Option Addr} {sz : Nat} {enc : α → List Value} : Sl w A sz enc ([] : List α) :=
  ⟨fun h => by simp at h, fun i x hx => by simp at hx⟩

section
variable {P : Program} {n : Nat} {s : St} {w : World} {d : Option Tmp} {ty : TypeId} {pos : String} {af : Array Edge} {g : Option (Nat × Bool)}

/-! ### Operations that only compute -/
def pv (s : St) : Op → Option Value
  | .move x => ev s x
  | .assign x => ev s x
  | .pick c a b => match ev s c with
    | some (.bool true) => ev s a
    | some (.bool false) => ev s b
    | _ => none
  | .unOp .not _ x => match ev s x with
    | some (.bool b) => some (.bool !b)
    | _ => none
  | .extract t i => match ev s t with
    | some (.tuple vs) => vs[i]?
    | _ => none
  | .nilCheck x => match ev s x with
    | some (.pointer (some a)) => some (.pointer (some a))
    | _ => none
  | _ => none

theorem q_pv {op : Op} {v : Value} (h : pv s op = some v) : QV P n s w ⟨d, op, ty, pos, af, g⟩ v := fun a ha => by
  cases op with
  | move x => simp only [execOp]; rw [ha.ev h]; rfl
  | assign x => simp only [execOp]; rw [ha.ev h]; rfl
  | pick c x y =>
    simp only [pv] at h
    split at h
    · rename_i hc; simp only [execOp]; rw [ha.ev hc, ha.ev h]; rfl
    · rename_i hc; simp only [execOp]; rw [ha.ev hc, ha.ev h]; rfl
    · cases h
  | unOp o t x =>
    cases o with
    | not =>
      simp only [pv] at h
      split at h
      · rename_i b hc; simp only [execOp]; rw [ha.ev hc]; cases h; rfl
      · cases h
    | _ => simp [pv] at h
  | extract t i =>
    simp only [pv] at h
    split at h
    · rename_i vs hc; simp only [execOp]; rw [ha.ev hc]; simp [Instr.extract, h]
    · cases h
  | nilCheck x =>
    simp only [pv] at h
    split at h
    · rename_i p hc; simp only [execOp]; rw [ha.ev hc]; cases h; rfl
    · cases h
  | _ => simp [pv] at h

theorem eqGuard_int (op : BinOp) (t : TypeId) (x y : Operand) (k k' : IntKind) (i j : Int) : (eqGuard op t x y (.int k i) (.int k' j)).run P w = .ok () w := by
  unfold eqGuard
  split <;> rfl

theorem q_bin {op : BinOp} {x y : Operand} {t t2 : TypeId} {k : IntKind} {i j : Int} {v : Value} (hx : ev s x = some (.int k i)) (hy : ev s y = some (.int k j))
    (hr : (binOp op t (.int k i) (.int k j)).run P w = .ok v w) : QV P n s w ⟨d, .binOp op t x y t2, ty, pos, af, g⟩ v := fun a ha => by
  simp only [execOp]
  rw [ha.ev hx, ha.ev hy]
  simp only [Sem.run_bind, eqGuard_int, Result.andThen_ok, hr, Sem.run_pure]

theorem q_add {x y : Operand} {t t2 : TypeId} {i j : Int} (hx : ev s x = some (.int .i64 i)) (hy : ev s y = some (.int .i64 j))
    (h : -9223372036854775808 ≤ i + j ∧ i + j ≤ 9223372036854775807) : QV P n s w ⟨d, .binOp .add t x y t2, ty, pos, af, g⟩ (.int .i64 (i + j)) :=
  q_bin hx hy (by rw [show binOp .add t (.int .i64 i) (.int .i64 j) = pure (.int .i64 (IntKind.i64.wrap (i + j))) from rfl, IntWalk.i64_in _ h]; rfl)
theorem q_sub {x y : Operand} {t t2 : TypeId} {i j : Int} (hx : ev s x = some (.int .i64 i)) (hy : ev s y = some (.int .i64 j))
    (h : -9223372036854775808 ≤ i - j ∧ i - j ≤ 9223372036854775807) : QV P n s w ⟨d, .binOp .sub t x y t2, ty, pos, af, g⟩ (.int .i64 (i - j)) :=
  q_bin hx hy (by rw [show binOp .sub t (.int .i64 i) (.int .i64 j) = pure (.int .i64 (IntKind.i64.wrap (i - j))) from rfl, IntWalk.i64_in _ h]; rfl)
theorem q_mul {x y : Operand} {t t2 : TypeId} {i j : Int} (hx : ev s x = some (.int .i64 i)) (hy : ev s y = some (.int .i64 j))
    (h : -9223372036854775808 ≤ i * j ∧ i * j ≤ 9223372036854775807) : QV P n s w ⟨d, .binOp .mul t x y t2, ty, pos, af, g⟩ (.int .i64 (i * j)) :=
  q_bin hx hy (by rw [show binOp .mul t (.int .i64 i) (.int .i64 j) = pure (.int .i64 (IntKind.i64.wrap (i * j))) from rfl, IntWalk.i64_in _ h]; rfl)
theorem q_addw {x y : Operand} {t t2 : TypeId} {i j : Int} (hx : ev s x = some (.int .i64 i)) (hy : ev s y = some (.int .i64 j)) :
    QV P n s w ⟨d, .binOp .add t x y t2, ty, pos, af, g⟩ (.int .i64 (wrap64 (i + j))) :=
  q_bin hx hy (by rw [show binOp .add t (.int .i64 i) (.int .i64 j) = pure (.int .i64 (IntKind.i64.wrap (i + j))) from rfl, IntWalk.i64_left]; rfl)
theorem q_subw {x y : Operand} {t t2 : TypeId} {i j : Int} (hx : ev s x = some (.int .i64 i)) (hy : ev s y = some (.int .i64 j)) :
    QV P n s w ⟨d, .binOp .sub t x y t2, ty, pos, af, g⟩ (.int .i64 (wrap64 (i - j))) :=
  q_bin hx hy (by rw [show binOp .sub t (.int .i64 i) (.int .i64 j) = pure (.int .i64 (IntKind.i64.wrap (i - j))) from rfl, IntWalk.i64_left]; rfl)
theorem q_mulw {x y : Operand} {t t2 : TypeId} {i j : Int} (hx : ev s x = some (.int .i64 i)) (hy : ev s y = some (.int .i64 j)) :
    QV P n s w ⟨d, .binOp .mul t x y t2, ty, pos, af, g⟩ (.int .i64 (wrap64 (i * j))) :=
  q_bin hx hy (by rw [show binOp .mul t (.int .i64 i) (.int .i64 j) = pure (.int .i64 (IntKind.i64.wrap (i * j))) from rfl, IntWalk.i64_left]; rfl)
theorem q_quo {x y : Operand} {t t2 : TypeId} {i j : Int} (hx : ev s x = some (.int .i64 i)) (hy : ev s y = some (.int .i64 j)) (h0 : 0 ≤ i) (h1 : i ≤ 9223372036854775807) (hj : 1 ≤ j) :
    QV P n s w ⟨d, .binOp .quo t x y t2, ty, pos, af, g⟩ (.int .i64 (i / j)) :=
  q_bin hx hy (by
    have e : i.tdiv j = i / j := Int.tdiv_eq_ediv_of_nonneg h0
    have b0 : 0 ≤ i / j := Int.ediv_nonneg h0 (by omega)
    have b1 : i / j ≤ i := Int.ediv_le_self _ h0
    have hw := IntWalk.i64_in (i / j) ⟨by omega, by omega⟩
    have hz : ¬ j = 0 := by omega
    simp only [binOp, Op.intDiv, ne_eq, not_true_eq_false, if_false, hz, e, hw]
    rfl)
theorem q_rem {x y : Operand} {t t2 : TypeId} {i j : Int} (hx : ev s x = some (.int .i64 i)) (hy : ev s y = some (.int .i64 j)) (h0 : 0 ≤ i) (hj : 1 ≤ j) :
    QV P n s w ⟨d, .binOp .rem t x y t2, ty, pos, af, g⟩ (.int .i64 (i % j)) :=
  q_bin hx hy (by
    have e : i.tmod j = i % j := Int.tmod_eq_emod_of_nonneg h0
    have hz : ¬ j = 0 := by omega
    simp only [binOp, Op.intDiv, ne_eq, not_true_eq_false, if_false, hz, e]
    rfl)

/-- Comparisons of numbers, as they come out. -/
def cmpB : BinOp → Int → Int → Option Bool
  | .eql, i, j => some (i == j)
  | .neq, i, j => some (i != j)
  | .lss, i, j => some (decide (i < j))
  | .leq, i, j => some (decide (i ≤ j))
  | .gtr, i, j => some (decide (i > j))
  | .geq, i, j => some (decide (i ≥ j))
  | _, _, _ => none

theorem q_cmp {op : BinOp} {x y : Operand} {t t2 : TypeId} {k : IntKind} {i j : Int} {b : Bool} (hx : ev s x = some (.int k i)) (hy : ev s y = some (.int k j))
    (hb : cmpB op i j = some b) : QV P n s w ⟨d, .binOp op t x y t2, ty, pos, af, g⟩ (.bool b) :=
  q_bin hx hy (by
    cases op <;> simp only [cmpB] at hb <;> first | (cases hb; done) | skip
    all_goals
      cases hb
      simp [binOp, Op.intCmp])

theorem q_lss (b : Bool) {x y : Operand} {t t2 : TypeId} {k : IntKind} {i j : Int} (hx : ev s x = some (.int k i)) (hy : ev s y = some (.int k j)) (h : (i < j) ↔ b = true) :
    QV P n s w ⟨d, .binOp .lss t x y t2, ty, pos, af, g⟩ (.bool b) := q_cmp hx hy (by cases b <;> simp_all [cmpB])
theorem q_leq (b : Bool) {x y : Operand} {t t2 : TypeId} {k : IntKind} {i j : Int} (hx : ev s x = some (.int k i)) (hy : ev s y = some (.int k j)) (h : (i ≤ j) ↔ b = true) :
    QV P n s w ⟨d, .binOp .leq t x y t2, ty, pos, af, g⟩ (.bool b) := q_cmp hx hy (by cases b <;> simp_all [cmpB])
theorem q_gtr (b : Bool) {x y : Operand} {t t2 : TypeId} {k : IntKind} {i j : Int} (hx : ev s x = some (.int k i)) (hy : ev s y = some (.int k j)) (h : (j < i) ↔ b = true) :
    QV P n s w ⟨d, .binOp .gtr t x y t2, ty, pos, af, g⟩ (.bool b) := q_cmp hx hy (by cases b <;> simp_all [cmpB])
theorem q_geq (b : Bool) {x y : Operand} {t t2 : TypeId} {k : IntKind} {i j : Int} (hx : ev s x = some (.int k i)) (hy : ev s y = some (.int k j)) (h : (j ≤ i) ↔ b = true) :
    QV P n s w ⟨d, .binOp .geq t x y t2, ty, pos, af, g⟩ (.bool b) := q_cmp hx hy (by cases b <;> simp_all [cmpB])
theorem q_eql (b : Bool) {x y : Operand} {t t2 : TypeId} {k : IntKind} {i j : Int} (hx : ev s x = some (.int k i)) (hy : ev s y = some (.int k j)) (h : (i = j) ↔ b = true) :
    QV P n s w ⟨d, .binOp .eql t x y t2, ty, pos, af, g⟩ (.bool b) := q_cmp hx hy (by cases b <;> simp_all [cmpB])
theorem q_neq (b : Bool) {x y : Operand} {t t2 : TypeId} {k : IntKind} {i j : Int} (hx : ev s x = some (.int k i)) (hy : ev s y = some (.int k j)) (h : ¬ (i = j) ↔ b = true) :
    QV P n s w ⟨d, .binOp .neq t x y t2, ty, pos, af, g⟩ (.bool b) := q_cmp hx hy (by cases b <;> simp_all [cmpB])


theorem q_lss1 {x y : Operand} {t t2 : TypeId} {k : IntKind} {i j : Int} (hx : ev s x = some (.int k i)) (hy : ev s y = some (.int k j)) (h : i < j) :
    QV P n s w ⟨d, .binOp .lss t x y t2, ty, pos, af, g⟩ (.bool true) := q_lss true hx hy (by simp; omega)
theorem q_lss0 {x y : Operand} {t t2 : TypeId} {k : IntKind} {i j : Int} (hx : ev s x = some (.int k i)) (hy : ev s y = some (.int k j)) (h : j ≤ i) :
    QV P n s w ⟨d, .binOp .lss t x y t2, ty, pos, af, g⟩ (.bool false) := q_lss false hx hy (by simp; omega)
theorem q_leq1 {x y : Operand} {t t2 : TypeId} {k : IntKind} {i j : Int} (hx : ev s x = some (.int k i)) (hy : ev s y = some (.int k j)) (h : i ≤ j) :
    QV P n s w ⟨d, .binOp .leq t x y t2, ty, pos, af, g⟩ (.bool true) := q_leq true hx hy (by simp; omega)
theorem q_leq0 {x y : Operand} {t t2 : TypeId} {k : IntKind} {i j : Int} (hx : ev s x = some (.int k i)) (hy : ev s y = some (.int k j)) (h : j < i) :
    QV P n s w ⟨d, .binOp .leq t x y t2, ty, pos, af, g⟩ (.bool false) := q_leq false hx hy (by simp; omega)
theorem q_gtr1 {x y : Operand} {t t2 : TypeId} {k : IntKind} {i j : Int} (hx : ev s x = some (.int k i)) (hy : ev s y = some (.int k j)) (h : j < i) :
    QV P n s w ⟨d, .binOp .gtr t x y t2, ty, pos, af, g⟩ (.bool true) := q_gtr true hx hy (by simp; omega)
theorem q_gtr0 {x y : Operand} {t t2 : TypeId} {k : IntKind} {i j : Int} (hx : ev s x = some (.int k i)) (hy : ev s y = some (.int k j)) (h : i ≤ j) :
    QV P n s w ⟨d, .binOp .gtr t x y t2, ty, pos, af, g⟩ (.bool false) := q_gtr false hx hy (by simp; omega)
theorem q_geq1 {x y : Operand} {t t2 : TypeId} {k : IntKind} {i j : Int} (hx : ev s x = some (.int k i)) (hy : ev s y = some (.int k j)) (h : j ≤ i) :
    QV P n s w ⟨d, .binOp .geq t x y t2, ty, pos, af, g⟩ (.bool true) := q_geq true hx hy (by simp; omega)
theorem q_geq0 {x y : Operand} {t t2 : TypeId} {k : IntKind} {i j : Int} (hx : ev s x = some (.int k i)) (hy : ev s y = some (.int k j)) (h : i < j) :
    QV P n s w ⟨d, .binOp .geq t x y t2, ty, pos, af, g⟩ (.bool false) := q_geq false hx hy (by simp; omega)
theorem q_eql1 {x y : Operand} {t t2 : TypeId} {k : IntKind} {i j : Int} (hx : ev s x = some (.int k i)) (hy : ev s y = some (.int k j)) (h : i = j) :
    QV P n s w ⟨d, .binOp .eql t x y t2, ty, pos, af, g⟩ (.bool true) := q_eql true hx hy (by simp; omega)
theorem q_eql0 {x y : Operand} {t t2 : TypeId} {k : IntKind} {i j : Int} (hx : ev s x = some (.int k i)) (hy : ev s y = some (.int k j)) (h : i ≠ j) :
    QV P n s w ⟨d, .binOp .eql t x y t2, ty, pos, af, g⟩ (.bool false) := q_eql false hx hy (by simp; omega)
theorem q_neq1 {x y : Operand} {t t2 : TypeId} {k : IntKind} {i j : Int} (hx : ev s x = some (.int k i)) (hy : ev s y = some (.int k j)) (h : i ≠ j) :
    QV P n s w ⟨d, .binOp .neq t x y t2, ty, pos, af, g⟩ (.bool true) := q_neq true hx hy (by simp; omega)
theorem q_neq0 {x y : Operand} {t t2 : TypeId} {k : IntKind} {i j : Int} (hx : ev s x = some (.int k i)) (hy : ev s y = some (.int k j)) (h : i = j) :
    QV P n s w ⟨d, .binOp .neq t x y t2, ty, pos, af, g⟩ (.bool false) := q_neq false hx hy (by simp; omega)

/-! ### Tests that part the way -/
theorem wl_lss {ops : Array Oper} {Q : Exit → St → World → Prop} {rest : List Oper} {x y : Operand} {t t2 : TypeId} {k : IntKind} {i j : Int} (hg : gd ops s g = some true) (hd : dOk n d = true)
    (hx : ev s x = some (.int k i)) (hy : ev s y = some (.int k j)) (ht : i < j → WL P n ops Q rest (pt d (.bool true) s) w) (hf : j ≤ i → WL P n ops Q rest (pt d (.bool false) s) w) :
    WL P n ops Q (⟨d, .binOp .lss t x y t2, ty, pos, af, g⟩ :: rest) s w := by
  by_cases h : i < j
  · exact wl_val hg hd (q_lss true hx hy (by simp; omega)) (ht h)
  · exact wl_val hg hd (q_lss false hx hy (by simp; omega)) (hf (by omega))
theorem wl_leq {ops : Array Oper} {Q : Exit → St → World → Prop} {rest : List Oper} {x y : Operand} {t t2 : TypeId} {k : IntKind} {i j : Int} (hg : gd ops s g = some true) (hd : dOk n d = true)
    (hx : ev s x = some (.int k i)) (hy : ev s y = some (.int k j)) (ht : i ≤ j → WL P n ops Q rest (pt d (.bool true) s) w) (hf : j < i → WL P n ops Q rest (pt d (.bool false) s) w) :
    WL P n ops Q (⟨d, .binOp .leq t x y t2, ty, pos, af, g⟩ :: rest) s w := by
  by_cases h : i ≤ j
  · exact wl_val hg hd (q_leq true hx hy (by simp; omega)) (ht h)
  · exact wl_val hg hd (q_leq false hx hy (by simp; omega)) (hf (by omega))
theorem wl_gtr {ops : Array Oper} {Q : Exit → St → World → Prop} {rest : List Oper} {x y : Operand} {t t2 : TypeId} {k : IntKind} {i j : Int} (hg : gd ops s g = some true) (hd : dOk n d = true)
    (hx : ev s x = some (.int k i)) (hy : ev s y = some (.int k j)) (ht : j < i → WL P n ops Q rest (pt d (.bool true) s) w) (hf : i ≤ j → WL P n ops Q rest (pt d (.bool false) s) w) :
    WL P n ops Q (⟨d, .binOp .gtr t x y t2, ty, pos, af, g⟩ :: rest) s w := by
  by_cases h : j < i
  · exact wl_val hg hd (q_gtr true hx hy (by simp; omega)) (ht h)
  · exact wl_val hg hd (q_gtr false hx hy (by simp; omega)) (hf (by omega))
theorem wl_geq {ops : Array Oper} {Q : Exit → St → World → Prop} {rest : List Oper} {x y : Operand} {t t2 : TypeId} {k : IntKind} {i j : Int} (hg : gd ops s g = some true) (hd : dOk n d = true)
    (hx : ev s x = some (.int k i)) (hy : ev s y = some (.int k j)) (ht : j ≤ i → WL P n ops Q rest (pt d (.bool true) s) w) (hf : i < j → WL P n ops Q rest (pt d (.bool false) s) w) :
    WL P n ops Q (⟨d, .binOp .geq t x y t2, ty, pos, af, g⟩ :: rest) s w := by
  by_cases h : j ≤ i
  · exact wl_val hg hd (q_geq true hx hy (by simp; omega)) (ht h)
  · exact wl_val hg hd (q_geq false hx hy (by simp; omega)) (hf (by omega))
theorem wl_eql {ops : Array Oper} {Q : Exit → St → World → Prop} {rest : List Oper} {x y : Operand} {t t2 : TypeId} {k : IntKind} {i j : Int} (hg : gd ops s g = some true) (hd : dOk n d = true)
    (hx : ev s x = some (.int k i)) (hy : ev s y = some (.int k j)) (ht : i = j → WL P n ops Q rest (pt d (.bool true) s) w) (hf : i ≠ j → WL P n ops Q rest (pt d (.bool false) s) w) :
    WL P n ops Q (⟨d, .binOp .eql t x y t2, ty, pos, af, g⟩ :: rest) s w := by
  by_cases h : i = j
  · exact wl_val hg hd (q_eql true hx hy (by simp; omega)) (ht h)
  · exact wl_val hg hd (q_eql false hx hy (by simp; omega)) (hf (by omega))
theorem wl_neq {ops : Array Oper} {Q : Exit → St → World → Prop} {rest : List Oper} {x y : Operand} {t t2 : TypeId} {k : IntKind} {i j : Int} (hg : gd ops s g = some true) (hd : dOk n d = true)
    (hx : ev s x = some (.int k i)) (hy : ev s y = some (.int k j)) (ht : i ≠ j → WL P n ops Q rest (pt d (.bool true) s) w) (hf : i = j → WL P n ops Q rest (pt d (.bool false) s) w) :
    WL P n ops Q (⟨d, .binOp .neq t x y t2, ty, pos, af, g⟩ :: rest) s w := by
  by_cases h : i ≠ j
  · exact wl_val hg hd (q_neq true hx hy (by simp; omega)) (ht h)
  · exact wl_val hg hd (q_neq false hx hy (by simp; omega)) (hf (by omega))

end
end Go.Proofs.Ytdenlafdbfbkoaa
