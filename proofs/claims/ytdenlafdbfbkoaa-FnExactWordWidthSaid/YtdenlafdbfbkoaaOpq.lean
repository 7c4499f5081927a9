/- More ways to return: several results, some of them cells. -/
import Derived.Test.YtdenlafdbfbkoaaOpo
import Derived.Test.YtdenlafdbfbkoaaOpd
namespace Go.Proofs.Ytdenlafdbfbkoaa
open Go.RowKit
set_option linter.unusedVariables false
set_option linter.unusedSimpArgs false
section
variable {P : Program} {n : Nat} {s : St} {w : World}

theorem rv4 {fn : Func} {t u q r : Tmp} {v x y z : Value} (h : fn.results = #[.tmp t, .tmp u, .tmp q, .tmp r]) (hv : lk s t = some v) (hx : lk s u = some x) (hy : lk s q = some y) (hz : lk s r = some z) : RV P n fn s w (.tuple #[v, x, y, z]) := fun a ha => by
  simp [results, h, ha.at2 hv, ha.at2 hx, ha.at2 hy, ha.at2 hz]
theorem rvCC {fn : Func} {t u : Tmp} {T U : TypeId} {m k : Nat} [hk : KAgg P T m] [hj : KAgg P U k] {a0 b0 : Addr} {cs ds : List Value} (h : fn.results = #[.cell t T, .cell u U]) (hv : lk s t = some (pp a0 0)) (hx : lk s u = some (pp b0 0))
    (hc : Cs w a0 cs) (hm : cs.length = m) (hd : Cs w b0 ds) (hn : ds.length = k) : RV P n fn s w (.tuple #[.agg cs.toArray, .agg ds.toArray]) := fun a ha => by
  have h1 := run_loadVar_agg (P := P) (t := T) hc hm
  have h2 := run_loadVar_agg (P := P) (t := U) hd hn
  have e : a0.add 0 = a0 := by simp [Addr.add]
  have e2 : b0.add 0 = b0 := by simp [Addr.add]
  simp [results, h, ha.at2 hv, ha.at2 hx, pp, asAddr, e, e2, h1, h2]
theorem rvCTT {fn : Func} {t u q : Tmp} {T : TypeId} {m : Nat} [hk : KAgg P T m] {a0 : Addr} {cs : List Value} {x y : Value} (h : fn.results = #[.cell t T, .tmp u, .tmp q]) (hv : lk s t = some (pp a0 0)) (hx : lk s u = some x) (hy : lk s q = some y) (hc : Cs w a0 cs) (hm : cs.length = m) :
    RV P n fn s w (.tuple #[.agg cs.toArray, x, y]) := fun a ha => by
  have := run_loadVar_agg (P := P) (t := T) hc hm
  have e : a0.add 0 = a0 := by simp [Addr.add]
  simp [results, h, ha.at2 hv, ha.at2 hx, ha.at2 hy, pp, asAddr, e, this]

/-- A region that draws its order, while one block is held: for a region whose calls and stores write to other old blocks. -/
theorem wh_beginB {id : Nat} {l : List Oper} {Q : Exit → St → World → Prop} {v : World} {b : Nat} {cs : List Value} (hb : Bx v b cs) (hm : P.follows .mixedOrders = true) (hB : Bx w b cs)
    (h : ∀ w1, Gr w w1 → w.heap.size = w1.heap.size → Bx w1 b cs → WH P n l.toArray Q (fun w' => Bx w' b cs) l.toArray.size (Array.replicate l.toArray.size false) s w1) : W P n (.region id l.toArray true) Q s w := fun a ha =>
  wp_region_held hm (h w.drew (Gr.drew w) rfl (hB.gr (Gr.drew w)) a ha)

theorem wi_beginB {id : Nat} {l : List Oper} {Q : Exit → St → World → Prop} {v : World} {b : Nat} {cs : List Value} (t : Sc) (hb : Bx v b cs) (hm : P.follows .mixedOrders = true) (hB : Bx w b cs)
    (h : ∀ w1, Gr w w1 → w.heap.size = w1.heap.size → Bx w1 b cs → WI t P n l.toArray Q (fun w' => Bx w' b cs) l.toArray.size (Array.replicate l.toArray.size false) s w1) : W P n (.region id l.toArray true) Q s w := by
  unfold WI at h
  exact wh_beginB hb hm hB h

/-! ### Glue compared -/
class KG3 (P : Program) (t : TypeId) : Prop where
  ng : P.eqGuardType P.depth t = false
  eq : ∀ (a b c a' b' c' : Int) (w : World), (Op.equalIn 10000 t (.agg #[.int .i64 a, .int .i64 b, .int .i64 c]) (.agg #[.int .i64 a', .int .i64 b', .int .i64 c'])).run P w = .ok (decide (a = a' ∧ b = b' ∧ c = c')) w

section
variable {d ty : _} {pos : _} {af : _} {g : _} {ops : Array Oper} {Q : Exit → St → World → Prop} {l : List Oper}
theorem q_eqG {x y : Operand} {t t2 : TypeId} [hk : KG3 P t] {a b c a' b' c' : Int} (hx : ev s x = some (.agg #[.int .i64 a, .int .i64 b, .int .i64 c])) (hy : ev s y = some (.agg #[.int .i64 a', .int .i64 b', .int .i64 c'])) :
    QV P n s w ⟨d, .binOp .eql t x y t2, ty, pos, af, g⟩ (.bool (decide (a = a' ∧ b = b' ∧ c = c'))) :=
  haveI : KNG P t := ⟨hk.ng⟩
  q_eqlS hx hy (hk.eq ..)
theorem q_neG {x y : Operand} {t t2 : TypeId} [hk : KG3 P t] {a b c a' b' c' : Int} (hx : ev s x = some (.agg #[.int .i64 a, .int .i64 b, .int .i64 c])) (hy : ev s y = some (.agg #[.int .i64 a', .int .i64 b', .int .i64 c'])) :
    QV P n s w ⟨d, .binOp .neq t x y t2, ty, pos, af, g⟩ (.bool (!decide (a = a' ∧ b = b' ∧ c = c'))) :=
  haveI : KNG P t := ⟨hk.ng⟩
  q_neqS hx hy (hk.eq ..)
theorem q_eqG1 {x y : Operand} {t t2 : TypeId} [hk : KG3 P t] {a b c a' b' c' : Int} (hx : ev s x = some (.agg #[.int .i64 a, .int .i64 b, .int .i64 c])) (hy : ev s y = some (.agg #[.int .i64 a', .int .i64 b', .int .i64 c'])) (h : a = a' ∧ b = b' ∧ c = c') :
    QV P n s w ⟨d, .binOp .eql t x y t2, ty, pos, af, g⟩ (.bool true) := by
  have := q_eqG (P := P) (n := n) (s := s) (w := w) (d := d) (t := t) (t2 := t2) (ty := ty) (pos := pos) (af := af) (g := g) hx hy
  simpa [h] using this
theorem q_neG1 {x y : Operand} {t t2 : TypeId} [hk : KG3 P t] {a b c a' b' c' : Int} (hx : ev s x = some (.agg #[.int .i64 a, .int .i64 b, .int .i64 c])) (hy : ev s y = some (.agg #[.int .i64 a', .int .i64 b', .int .i64 c'])) (h : a = a' ∧ b = b' ∧ c = c') :
    QV P n s w ⟨d, .binOp .neq t x y t2, ty, pos, af, g⟩ (.bool false) := by
  have := q_neG (P := P) (n := n) (s := s) (w := w) (d := d) (t := t) (t2 := t2) (ty := ty) (pos := pos) (af := af) (g := g) hx hy
  simpa [h] using this
end

/-! ### Items compared -/
class KT6 (P : Program) (t : TypeId) : Prop where
  ng : P.eqGuardType P.depth t = false
  eq : ∀ (a b c d e a' b' c' d' e' : Int) (f f' : Bool) (w : World), (Op.equalIn 10000 t (.agg #[.int .i64 a, .int .i64 b, .int .i64 c, .int .i64 d, .int .i64 e, .bool f]) (.agg #[.int .i64 a', .int .i64 b', .int .i64 c', .int .i64 d', .int .i64 e', .bool f'])).run P w =
    .ok (decide (a = a' ∧ b = b' ∧ c = c' ∧ d = d' ∧ e = e' ∧ f = f')) w

section
variable {d ty : _} {pos : _} {af : _} {g : _} {ops : Array Oper} {Q : Exit → St → World → Prop} {l : List Oper}
theorem q_eqT {x y : Operand} {t t2 : TypeId} [hk : KT6 P t] {a b c k e a' b' c' k' e' : Int} {f f' : Bool} (hx : ev s x = some (.agg #[.int .i64 a, .int .i64 b, .int .i64 c, .int .i64 k, .int .i64 e, .bool f]))
    (hy : ev s y = some (.agg #[.int .i64 a', .int .i64 b', .int .i64 c', .int .i64 k', .int .i64 e', .bool f'])) :
    QV P n s w ⟨d, .binOp .eql t x y t2, ty, pos, af, g⟩ (.bool (decide (a = a' ∧ b = b' ∧ c = c' ∧ k = k' ∧ e = e' ∧ f = f'))) :=
  haveI : KNG P t := ⟨hk.ng⟩
  q_eqlS hx hy (hk.eq ..)
theorem q_neT {x y : Operand} {t t2 : TypeId} [hk : KT6 P t] {a b c k e a' b' c' k' e' : Int} {f f' : Bool} (hx : ev s x = some (.agg #[.int .i64 a, .int .i64 b, .int .i64 c, .int .i64 k, .int .i64 e, .bool f]))
    (hy : ev s y = some (.agg #[.int .i64 a', .int .i64 b', .int .i64 c', .int .i64 k', .int .i64 e', .bool f'])) :
    QV P n s w ⟨d, .binOp .neq t x y t2, ty, pos, af, g⟩ (.bool (!decide (a = a' ∧ b = b' ∧ c = c' ∧ k = k' ∧ e = e' ∧ f = f'))) :=
  haveI : KNG P t := ⟨hk.ng⟩
  q_neqS hx hy (hk.eq ..)
end
end
end Go.Proofs.Ytdenlafdbfbkoaa
