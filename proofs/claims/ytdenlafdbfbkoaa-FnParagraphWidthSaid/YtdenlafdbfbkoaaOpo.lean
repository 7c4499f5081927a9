/- The engine's rules: make, append, slices of slices, numbers of other kinds, equality of structs, strings. No program in sight. -/
import Derived.Test.YtdenlafdbfbkoaaOpn
import Derived.Maps.AppendAt
namespace Go.Proofs.Ytdenlafdbfbkoaa
open Go.RowKit
set_option linter.unusedVariables false
set_option linter.unusedSimpArgs false

class KBool (P : Program) (t : TypeId) : Prop where h : P.underlying t = some .bool
class KNG (P : Program) (t : TypeId) : Prop where h : P.eqGuardType P.depth t = false

/-- A string, by its bytes. -/
def str (l : List UInt8) : Value := .string ⟨l.toArray⟩

/-! ### A slice that the call owns and appends to -/
structure Ow {α : Type} (w : World) (base : Nat) (e : TypeId) (sz : Nat) (enc : α → List Value) (A : Option Addr) (c : Nat) (xs : List α) : Prop where
  row : w.ownsRow base e sz (.slice A xs.length c) xs.length (xs.flatMap enc)

theorem Ow.nil {α : Type} {w : World} {base : Nat} {e : TypeId} {sz : Nat} {enc : α → List Value} : Ow w base e sz enc none 0 ([] : List α) :=
  ⟨World.ownsRow_nil w base e sz⟩

theorem Ow.gr {α : Type} {w w' : World} {base : Nat} {e : TypeId} {sz : Nat} {enc : α → List Value} {A : Option Addr} {c : Nat} {xs : List α} (g : Gr w w') (h : Ow w base e sz enc A c xs) : Ow w' base e sz enc A c xs :=
  ⟨h.row.kept (row := none) ⟨g.os, g.tape, g.output, g.size, fun k hk _ => g.block k hk⟩ (by cases hb : (Value.slice A xs.length c).ownBlock <;> simp)⟩

theorem Ow.mv {α : Type} {w w' : World} {base : Nat} {e : TypeId} {sz : Nat} {enc : α → List Value} {A : Option Addr} {c b : Nat} {xs : List α} (g : w.grownBy w' (some b)) (hne : A.map (·.block) ≠ some b) (h : Ow w base e sz enc A c xs) :
    Ow w' base e sz enc A c xs :=
  ⟨h.row.kept g (.inr (by
    intro e
    apply hne
    cases A with
    | none => simp [Value.ownBlock] at e
    | some a => simpa [Value.ownBlock] using e))⟩

theorem flat_get {α : Type} {enc : α → List Value} {sz : Nat} (hs : ∀ x, (enc x).length = sz) : ∀ (xs : List α) (i j : Nat) (x : α), xs[i]? = some x → j < sz → (xs.flatMap enc)[i * sz + j]? = (enc x)[j]?
  | [], i, j, x, h, _ => by simp at h
  | y :: ys, 0, j, x, h, hj => by
    simp only [List.getElem?_cons_zero, Option.some.injEq] at h
    subst h
    simp only [List.flatMap_cons, Nat.zero_mul, Nat.zero_add]
    rw [List.getElem?_append_left (by rw [hs]; exact hj)]
  | y :: ys, i + 1, j, x, h, hj => by
    simp only [List.getElem?_cons_succ] at h
    simp only [List.flatMap_cons]
    rw [List.getElem?_append_right (by rw [hs, Nat.add_mul]; omega)]
    rw [show (i + 1) * sz + j - (enc y).length = i * sz + j by rw [hs, Nat.add_mul]; omega]
    exact flat_get hs ys i j x h hj

theorem Ow.block {α : Type} {w : World} {base : Nat} {e : TypeId} {sz : Nat} {enc : α → List Value} {A : Option Addr} {c : Nat} {xs : List α} (h : Ow w base e sz enc A c xs) :
    ∀ a, A = some a → base ≤ a.block ∧ a.block < w.heap.size := fun a ha => by
  subst ha
  exact h.row.lt a.block rfl

/-- What is owned may be read. -/
theorem Ow.sl {α : Type} {w : World} {base : Nat} {e : TypeId} {sz : Nat} {enc : α → List Value} {A : Option Addr} {c : Nat} {xs : List α} (hs : ∀ x, (enc x).length = sz) (h : Ow w base e sz enc A c xs) : Sl w A sz enc xs := by
  refine ⟨fun hn => ?_, fun i x hx j u hu => ?_⟩
  · rcases h.row.2 with ⟨he, h0⟩ | ⟨g, cap, cur, he, _⟩
    · omega
    · cases he; rfl
  · have hi : i < xs.length := (List.getElem?_eq_some_iff.1 hx).1
    rcases h.row.2 with ⟨he, h0⟩ | ⟨g, cap, cur, he, hb, hg, hle, hm, hsz, htk⟩
    · omega
    · cases he
      have hj : j < sz := by have := (List.getElem?_eq_some_iff.1 hu).1; rw [hs] at this; exact this
      have hf := flat_get hs xs i j x hx hj
      have := h.row.cells (g := g) rfl (i * sz + j) u (by rw [hf]; exact hu)
      simpa [ea, add_add] using this

theorem Ow.le {α : Type} {w : World} {base : Nat} {e : TypeId} {sz : Nat} {enc : α → List Value} {A : Option Addr} {c : Nat} {xs : List α} (h : Ow w base e sz enc A c xs) : xs.length ≤ c := by
  rcases h.row.2 with ⟨he, h0⟩ | ⟨g, cap, cur, he, hb, hg, hle, hm, hsz, htk⟩
  · omega
  · cases he; exact hle

/-- The numbers that cells hold. -/
def ints (cs : List Value) : List Int := cs.map fun v => match v with | .int _ n => n | _ => 0

theorem Bx.sl {α : Type} {w : World} {b sz : Nat} {enc : α → List Value} {cs : List Value} {xs : List α} (h : Bx w b cs) (hs : ∀ x, (enc x).length = sz) (he : xs.flatMap enc = cs) : Sl w (some ⟨b, 0, none⟩) sz enc xs := by
  refine ⟨fun _ => rfl, fun i x hx j u hu => ?_⟩
  have hj : j < sz := by have := (List.getElem?_eq_some_iff.1 hu).1; rw [hs] at this; exact this
  have hf := flat_get hs xs i j x hx hj
  have := h.cs (i * sz + j) u (by rw [← he, hf]; exact hu)
  simpa [ea, add_add] using this

section
variable {P : Program} {n : Nat} {s : St} {w : World} {d : Option Tmp} {ty : TypeId} {pos : String} {af : Array Edge} {g : Option (Nat × Bool)}

theorem st_append {α : Type} {x y : Operand} {t e : TypeId} {sz bytes : Nat} {z : Value} [hk : KSl P t e] [hr : KRow P e sz bytes z] {base : Nat} {enc : α → List Value} {A : Option Addr} {c m c2 k : Nat} {ad : Addr} {xs ys : List α} {news : List Value} {K : Value → World → Prop}
    (hO : Ow w base e sz enc A c xs) (hx : ev s x = some (.slice A k c)) (hkk : k = xs.length) (hy : ev s y = some (.slice (some ad) m c2)) (hm : m = ys.length) (hC : Cs w ad news) (hn : news = ys.flatMap enc)
    (hs : ∀ x, (enc x).length = sz) (h1 : ∀ x, (enc x).all (·.oneCell') = true) (hb1 : Nat.ble 1 bytes = true) (hb : (xs.length + ys.length) * bytes ≤ 140737488355328) (hbase : base ≤ w.heap.size)
    (h : ∀ A' c' w', w.grownBy w' (A.map (·.block)) → w.heap.size ≤ w'.heap.size → (A'.map (·.block) = A.map (·.block) ∨ A'.map (·.block) = some w.heap.size) → (0 < m → A'.isSome = true) →
      Ow w' base e sz enc A' c' (xs ++ ys) → K (.slice A' (xs ++ ys).length c') w') :
    ST P n s w ⟨d, .call { callee := .builtin .append, args := #[x, y], argTypes := #[t, t] }, ty, pos, af, g⟩ K := fun a ha KA QA hK => by
  obtain ⟨i, hi, hz0, hz1, hz2⟩ := hr.h
  subst hkk
  have hb1' : 1 ≤ bytes := Nat.le_of_ble_eq_true hb1
  have hlen : (ys.flatMap enc).length = m * sz := by
    subst hm
    clear hn hb h hy
    induction ys with
    | nil => simp
    | cons y ys ih => simp only [List.flatMap_cons, List.length_append, hs, ih, List.length_cons, Nat.add_mul]; omega
  have hmax : xs.length + m ≤ maxLen := by
    have h1 : xs.length + ys.length ≤ (xs.length + ys.length) * bytes := Nat.le_mul_of_pos_right _ hb1'
    subst hm
    simp only [maxLen]
    omega
  have hall : ∀ u ∈ ys.flatMap enc, u.oneCell' = true := by
    intro u hu
    obtain ⟨y, _, hyu⟩ := List.mem_flatMap.1 hu
    exact List.all_eq_true.1 (h1 y) u hyu
  subst hn
  obtain ⟨v', w', hrun, h2, h3, h4, h5⟩ := run_append_own_at (P := P) w base t ty e i z sz bytes hk.h hi hz0 hz1 hz2 hr.zsz hr.pos (.slice A xs.length c) xs.length (xs.flatMap enc) hO.row ad m c2 (ys.flatMap enc) hlen hC hall hmax (by subst hm; exact hb) hbase
  have hrun' : (execOp a.eval ⟨d, .call { callee := .builtin .append, args := #[x, y], argTypes := #[t, t] }, ty, pos, af, g⟩).run P w = .ok (.value v') w' := by
    simp only [execOp, resolve, List.map_toArray, List.map_cons, List.map_nil, ha.ev hx, ha.ev hy, Sem.run_bind, Sem.run_pure, Result.andThen_ok, invoke, builtin, hrun]
  have hv : ∃ A' c', v' = .slice A' (xs ++ ys).length c' := by
    rcases h2.2 with ⟨rfl, h0⟩ | ⟨g', cap, cur, rfl, _⟩
    · exact ⟨none, 0, by simp [show xs.length = 0 by omega, show ys.length = 0 by omega]⟩
    · exact ⟨_, _, by rw [List.length_append, ← hm]⟩
  obtain ⟨A', c', rfl⟩ := hv
  have hlen2 : xs.length + m = (xs ++ ys).length := by rw [List.length_append, hm]
  have hob : ∀ (B : Option Addr) (k c : Nat), (Value.slice B k c).ownBlock = B.map (·.block) := fun B k c => by cases B <;> rfl
  rw [hob] at h3
  rw [hob, hob] at h5
  unfold Oper.wp
  rw [hrun']
  refine hK _ _ (h A' c' w' h3 h3.size h5 (fun hm0 => ?_) ⟨by rw [List.flatMap_append, ← hlen2]; exact (by rw [hlen2] at h2 ⊢; exact h2)⟩)
  rcases h2.2 with ⟨he, h0⟩ | ⟨g', cap, cur, he, _⟩
  · omega
  · simp only [Value.slice.injEq] at he
    rw [he.1]
    rfl

theorem flatten_get {l : List Value} {sz : Nat} (hs : l.length = sz) : ∀ (k j : Nat), j < k * sz → (List.replicate k l).flatten[j]? = l[j % sz]?
  | 0, j, h => by omega
  | k + 1, j, h => by
    simp only [List.replicate_succ, List.flatten_cons]
    by_cases hj : j < sz
    · rw [List.getElem?_append_left (by omega), Nat.mod_eq_of_lt hj]
    · rw [List.getElem?_append_right (by omega), hs, flatten_get hs k (j - sz) (by rw [Nat.add_mul] at h; omega)]
      rw [← Nat.mod_eq_sub_mod (by omega)]

theorem st_makeSlice {x y : Operand} {t e : TypeId} {sz bytes : Nat} {z : Value} [hk : KSl P t e] [hr : KRow P e sz bytes z] {k1 k2 : IntKind} {m : Nat} {K : Value → World → Prop}
    (hx : ev s x = some (.int k1 (m : Int))) (hy : ev s y = some (.int k2 (m : Int))) (hb1 : Nat.ble 1 bytes = true) (hb : bytes * m ≤ 281474976710656)
    (h : ∀ b w', w.heap.size = b → Gr w w' → w.heap.size < w'.heap.size → Bx w' b (List.replicate m z.cells.toList).flatten → K (.slice (some ⟨b, 0, none⟩) m m) w') :
    ST P n s w ⟨d, .makeSlice t x y, ty, pos, af, g⟩ K := fun a ha KA QA hK => by
  obtain ⟨i, hi, hz0, hz1, hz2⟩ := hr.h
  have hb1' : 1 ≤ bytes := Nat.le_of_ble_eq_true hb1
  have hmle : m ≤ bytes * m := Nat.le_mul_of_pos_left _ hb1'
  have hbi : (i.bytes : Int) * (m : Int) ≤ 281474976710656 := by
    rw [hz2]
    have : ((bytes * m : Nat) : Int) ≤ 281474976710656 := by omega
    rwa [Int.natCast_mul] at this
  have hrun := run_make (P := P) w t e i z hk.h hi hz0 k1 k2 (m : Int) (m : Int) (by omega) (Int.le_refl _) hbi (by omega)
  simp only [Int.toNat_natCast, hz1] at hrun
  have hzl : z.cells.toList.length = sz := by simpa using hr.zsz
  have hcells : madeCells z.cells (m * sz) = ((List.replicate m z.cells.toList).flatten).toArray := by
    apply Array.ext'
    apply List.ext_getElem?
    intro j
    simp only [madeCells, Array.toList_map, Array.toList_range, List.getElem?_map]
    by_cases hj : j < m * sz
    · rw [flatten_get hzl m j hj, List.getElem?_range hj]
      have hlt : j % sz < z.cells.size := by rw [hr.zsz]; exact Nat.mod_lt _ hr.pos
      simp only [Option.map_some, hr.zsz]
      rw [getElem!_pos z.cells (j % sz) hlt]
      simp [hlt]
    · rw [List.getElem?_eq_none (by simp; omega), List.getElem?_eq_none (by simp [hr.zsz]; omega)]
      rfl
  have hrun' : (execOp a.eval ⟨d, .makeSlice t x y, ty, pos, af, g⟩).run P w = .ok (.value (.slice (some ⟨w.heap.size, 0, none⟩) m m)) (w.alloc (.cells (madeCells z.cells (m * sz)) e)) := by
    simp only [execOp, ha.ev hx, ha.ev hy, Sem.run_bind, hrun, Result.andThen_ok, Sem.run_pure]
  unfold Oper.wp
  rw [hrun']
  exact hK _ _ (h _ _ rfl (Gr.alloc w _) (by simp) ⟨e, by rw [hcells]; exact heap_alloc_new w _⟩)

/-! ### Slices of slices -/
def subA (A : Option Addr) (c l sz : Nat) : Option Addr := if c = l then A else A.map (·.add (l * sz))

theorem Sl.sub {α : Type} {A : Option Addr} {c l h sz : Nat} {enc : α → List Value} {xs : List α} (hS : Sl w A sz enc xs) (hle : xs.length ≤ c) (hh : h ≤ xs.length) : Sl w (subA A c l sz) sz enc ((xs.take h).drop l) := by
  refine ⟨fun hn => ?_, fun i x hx => ?_⟩
  · simp at hn
    have := hS.nn (by omega)
    unfold subA
    split
    · exact this
    · cases A with
      | none => simp at this
      | some a => rfl
  · have hlt := (List.getElem?_eq_some_iff.1 hx).1
    simp at hlt
    rw [List.getElem?_drop, List.getElem?_take] at hx
    rw [if_pos (by omega)] at hx
    have := hS.el (l + i) x hx
    have hnn := hS.nn (by omega)
    unfold subA
    rw [if_neg (by omega)]
    cases A with
    | none => simp at hnn
    | some a => simpa [ea, add_add, Nat.add_mul] using this

theorem q_slice {x lo hi : Operand} {t e : TypeId} {sz : Nat} [hk : KSl P t e] [hz : KSz P e sz] {A : Option Addr} {m c l h : Nat} {k1 k2 : IntKind}
    (hx : ev s x = some (.slice A m c)) (hl : ev s lo = some (.int k1 (l : Int))) (hh : ev s hi = some (.int k2 (h : Int))) (h1 : l ≤ h) (h2 : h ≤ c) :
    QV P n s w ⟨d, .slice t x (some lo) (some hi) none, ty, pos, af, g⟩ (.slice (subA A c l sz) (h - l) (c - l)) := fun a ha => by
  simp only [execOp, Option.map_some, Option.map_none, ha.ev hx, ha.ev hl, ha.ev hh, Sem.run_bind]
  simp [Instr.sliceAt, Instr.slice, run_underlying hk.h, Instr.sliceBounds, Instr.sliceBound, asIntOf, hz.sz, show (h : Int) ≤ (c : Int) by omega, show (l : Int) ≤ (h : Int) by omega, h1, h2, subA]

theorem q_sliceTo {x hi : Operand} {t e : TypeId} {sz : Nat} [hk : KSl P t e] [hz : KSz P e sz] {A : Option Addr} {m c h : Nat} {k2 : IntKind}
    (hx : ev s x = some (.slice A m c)) (hh : ev s hi = some (.int k2 (h : Int))) (h2 : h ≤ c) :
    QV P n s w ⟨d, .slice t x none (some hi) none, ty, pos, af, g⟩ (.slice (subA A c 0 sz) (h - 0) (c - 0)) := fun a ha => by
  simp only [execOp, Option.map_some, Option.map_none, ha.ev hx, ha.ev hh, Sem.run_bind]
  simp [Instr.sliceAt, Instr.slice, run_underlying hk.h, Instr.sliceBounds, Instr.sliceBound, asIntOf, hz.sz, show (h : Int) ≤ (c : Int) by omega, h2, subA]

theorem q_sliceFrom {x lo : Operand} {t e : TypeId} {sz : Nat} [hk : KSl P t e] [hz : KSz P e sz] {A : Option Addr} {m c l : Nat} {k1 : IntKind}
    (hx : ev s x = some (.slice A m c)) (hl : ev s lo = some (.int k1 (l : Int))) (h1 : l ≤ m) :
    QV P n s w ⟨d, .slice t x (some lo) none none, ty, pos, af, g⟩ (.slice (subA A c l sz) (m - l) (c - l)) := fun a ha => by
  simp only [execOp, Option.map_some, Option.map_none, ha.ev hx, ha.ev hl, Sem.run_bind]
  simp [Instr.sliceAt, Instr.slice, run_underlying hk.h, Instr.sliceBounds, Instr.sliceBound, asIntOf, hz.sz, show (l : Int) ≤ (m : Int) by omega, h1, subA]

/-! ### Numbers of other kinds; booleans; structs -/
theorem q_conv {x : Operand} {t1 t2 : TypeId} {k0 k : IntKind} [h1 : KInt P t1 k0] [h2 : KInt P t2 k] {i : Int} (hx : ev s x = some (.int k0 i)) (hw : k.wrap i = i) :
    QV P n s w ⟨d, .convert t1 t2 x, ty, pos, af, g⟩ (.int k i) := fun a ha => by
  simp only [execOp, ha.ev hx, Sem.run_bind]
  simp [convert, run_underlying h1.h, run_underlying h2.h, Conv.intToInt, hw]

theorem q_neg {x : Operand} {t : TypeId} {i : Int} (hx : ev s x = some (.int .i64 i)) (h : -9223372036854775808 ≤ -i ∧ -i ≤ 9223372036854775807) :
    QV P n s w ⟨d, .unOp .neg t x, ty, pos, af, g⟩ (.int .i64 (-i)) := fun a ha => by
  have hw := IntWalk.i64_in (0 - i) (by omega)
  simp only [execOp, ha.ev hx, Sem.run_bind]
  simp [Op.unary, Op.intArith]
  simpa using hw

theorem q_eqlB {x y : Operand} {t t2 : TypeId} [hk : KBool P t] {b c : Bool} (hx : ev s x = some (.bool b)) (hy : ev s y = some (.bool c)) :
    QV P n s w ⟨d, .binOp .eql t x y t2, ty, pos, af, g⟩ (.bool (b == c)) := fun a ha => by
  simp only [execOp, ha.ev hx, ha.ev hy, Sem.run_bind]
  simp [eqGuard, binOp, Op.equal, Op.maxDepth, run_equalIn_bool' w 9999 t b c hk.h]

theorem q_neqB {x y : Operand} {t t2 : TypeId} [hk : KBool P t] {b c : Bool} (hx : ev s x = some (.bool b)) (hy : ev s y = some (.bool c)) :
    QV P n s w ⟨d, .binOp .neq t x y t2, ty, pos, af, g⟩ (.bool (b != c)) := fun a ha => by
  simp only [execOp, ha.ev hx, ha.ev hy, Sem.run_bind]
  simp [eqGuard, binOp, Op.equal, Op.maxDepth, run_equalIn_bool' w 9999 t b c hk.h, bne]

theorem q_eqlS {x y : Operand} {t t2 : TypeId} [hk : KNG P t] {xs ys : Array Value} {b : Bool} (hx : ev s x = some (.agg xs)) (hy : ev s y = some (.agg ys)) (hr : (Op.equalIn 10000 t (.agg xs) (.agg ys)).run P w = .ok b w) :
    QV P n s w ⟨d, .binOp .eql t x y t2, ty, pos, af, g⟩ (.bool b) := fun a ha => by
  simp only [execOp, ha.ev hx, ha.ev hy, Sem.run_bind, run_eqGuard_agg _ _ _ _ _ _ _ hk.h, Result.andThen_ok, run_eql_struct, hr, Sem.run_pure]

theorem q_neqS {x y : Operand} {t t2 : TypeId} [hk : KNG P t] {xs ys : Array Value} {b : Bool} (hx : ev s x = some (.agg xs)) (hy : ev s y = some (.agg ys)) (hr : (Op.equalIn 10000 t (.agg xs) (.agg ys)).run P w = .ok b w) :
    QV P n s w ⟨d, .binOp .neq t x y t2, ty, pos, af, g⟩ (.bool (!b)) := fun a ha => by
  simp only [execOp, ha.ev hx, ha.ev hy, Sem.run_bind, run_eqGuard_agg _ _ _ _ _ _ _ hk.h, Result.andThen_ok, run_neq_struct, hr, Sem.run_pure]

theorem ofInt_i64 (a : Nat) (ha : a < 9223372036854775808) : (BitVec.ofInt 64 (a : Int)).toNat = a := by
  rw [BitVec.ofInt_natCast, BitVec.toNat_ofNat]; exact Nat.mod_eq_of_lt (by omega)

theorem q_xor {x y : Operand} {t t2 : TypeId} {i j : Int} (hx : ev s x = some (.int .i64 i)) (hy : ev s y = some (.int .i64 j)) (h0 : 0 ≤ i ∧ i ≤ 9223372036854775807) (h1 : 0 ≤ j ∧ j ≤ 9223372036854775807) :
    QV P n s w ⟨d, .binOp .xor t x y t2, ty, pos, af, g⟩ (.int .i64 ((i.toNat ^^^ j.toNat : Nat) : Int)) := q_bin hx hy (by
  obtain ⟨a, rfl⟩ := Int.eq_ofNat_of_zero_le h0.1
  obtain ⟨b, rfl⟩ := Int.eq_ofNat_of_zero_le h1.1
  have hlt : a ^^^ b < 2 ^ 63 := Nat.xor_lt_two_pow (by omega) (by omega)
  have e : IntKind.i64.wrap ((BitVec.ofInt 64 (a : Int) ^^^ BitVec.ofInt 64 (b : Int)).toNat : Int) = ((a ^^^ b : Nat) : Int) := by
    rw [BitVec.toNat_xor, ofInt_i64 a (by omega), ofInt_i64 b (by omega), IntKind.wrap_i64]
    omega
  simp only [Int.toNat_natCast]
  rw [← e]
  rfl)

/-! ### Worlds in which one old block may have been written -/
abbrev Fr (r : Nat) (w w' : World) : Prop := w.grownBy w' (some r)
theorem Fr.refl (r : Nat) (w : World) : Fr r w w := ⟨rfl, rfl, rfl, Nat.le_refl _, fun _ _ _ => rfl⟩
theorem Fr.trans {r : Nat} {a b c : World} (h : Fr r a b) (k : Fr r b c) : Fr r a c :=
  ⟨k.os.trans h.os, k.tape.trans h.tape, k.output.trans h.output, Nat.le_trans h.size k.size, fun i hi hn => (k.block i (Nat.lt_of_lt_of_le hi h.size) hn).trans (h.block i hi hn)⟩
theorem Fr.gr {r : Nat} {a b c : World} (h : Fr r a b) (k : Gr b c) : Fr r a c := h.trans ⟨k.os, k.tape, k.output, k.size, fun i hi _ => k.block i hi⟩
theorem Fr.st {r t : Nat} {a b c : World} (h : Fr r a b) (k : Fr t b c) (ht : a.heap.size ≤ t) : Fr r a c :=
  ⟨k.os.trans h.os, k.tape.trans h.tape, k.output.trans h.output, Nat.le_trans h.size k.size, fun i hi hn => (k.block i (Nat.lt_of_lt_of_le hi h.size) (by intro e; cases e; omega)).trans (h.block i hi hn)⟩

theorem ea_block {A : Option Addr} {m : Nat} {a : Addr} (h : A = some a) : (ea A m).block = a.block := by subst h; simp [ea, add_block]

theorem Sl.mv {α : Type} {w w' : World} {A : Option Addr} {sz r : Nat} {enc : α → List Value} {xs : List α} (g : w.grownBy w' (some r)) (hne : ∀ a, 0 < xs.length → A = some a → a.block ≠ r) (h : Sl w A sz enc xs) : Sl w' A sz enc xs :=
  ⟨h.nn, fun i x hx => (h.el i x hx).mv g (by
    have hlt := (List.getElem?_eq_some_iff.1 hx).1
    have hn := h.nn (by omega)
    cases A with
    | none => simp at hn
    | some a => rw [ea_block rfl]; exact hne a (by omega) rfl)⟩

theorem Sl.lt {α : Type} {w : World} {A : Option Addr} {sz : Nat} {enc : α → List Value} {xs : List α} (h : Sl w A sz enc xs) (he : ∀ x, 0 < (enc x).length) : ∀ a, 0 < xs.length → A = some a → a.block < w.heap.size := fun a hn ha => by
  have hx : xs[0]? = some xs[0] := List.getElem?_eq_getElem hn
  have h0 := h.el 0 _ hx 0 _ (List.getElem?_eq_getElem (he _))
  have := World.block_lt_of_cell? w _ h0
  rwa [add_block, ea_block ha] at this

end
end Go.Proofs.Ytdenlafdbfbkoaa
