/- More ways to return: several results, some of them cells. -/
import Derived.Test.YtkmfjdnkkkejpaaOpo
import Derived.Test.YtkmfjdnkkkejpaaOpd
namespace Go.Proofs.Ytkmfjdnkkkejpaa
open Go.RowKit
set_option linter.unusedVariables false
set_option linter.unusedSimpArgs false
section
variable {P : Program} {n : Nat} {s : St} {w : World}

theorem rv4 {fn : Func} {t u q r : Tmp} {v x y z : Value} (h : fn.results = #[.tmp t, .tmp u, .tmp q, .tmp r]) (hv : lk s t = some v) (hx : lk s u = some x) (hy : lk s q = some y) (hz : lk s r = some z) : RV P n fn s w (.tuple #[v, x, y, z]) := fun a ha => by
  simp [results, h, ha.at2 hv, ha.at2 hx, ha.at2 hy, ha.at2 hz]
theorem rvCC {fn : Func} {t u : Tmp} {T U : TypeId} {m k : Nat} [hk : KAgg P T m] [hj : KAgg P U k] {a0 b0 : Addr} {cs ds : List Value} (h : fn.results = #[.cell t T, .cell u U]) (hv : lk s t = some (pp a0 0)) (hx : lk s u = some (pp b0 0))
    (hc : Cs w a0 cs) (hm : cs.length = m) (hd : Cs w b0 ds) (hn : ds.length = k) : RV P n fn s w (.tuple #[.agg cs.toArray, .agg ds.toArray]) := fun a ha => by
  have h1 := run_loadVar_agg (P := P) (t := T) hc hm
  have h2 := run_loadVar_agg (P := P) (t := U) hd hn
  have e : a0.add 0 = a0 := by simp [Addr.add]
  have e2 : b0.add 0 = b0 := by simp [Addr.add]
  simp [results, h, ha.at2 hv, ha.at2 hx, pp, asAddr, e, e2, h1, h2]
theorem rvCTT {fn : Func} {t u q : Tmp} {T : TypeId} {m : Nat} [hk : KAgg P T m] {a0 : Addr} {cs : List Value} {x y : Value} (h : fn.results = #[.cell t T, .tmp u, .tmp q]) (hv : lk s t = some (pp a0 0)) (hx : lk s u = some x) (hy : lk s q = some y) (hc : Cs w a0 cs) (hm : cs.length = m) :
    RV P n fn s w (.tuple #[.agg cs.toArray, x, y]) := fun a ha => by
  have := run_loadVar_agg (P := P) (t := T) hc hm
  have e : a0.add 0 = a0 := by simp [Addr.add]
  simp [results, h, ha.at2 hv, ha.at2 hx, ha.at2 hy, pp, asAddr, e, this]

/-- A region that draws its order, while one block is held: for a region whose calls and stores write to other old blocks. -/
theorem wh_beginB {id : Nat} {l : List Oper} {Q : Exit → St → World → Prop} {v : World} {b : Nat} {cs : List Value} (hb : Bx v b cs) (hm : P.follows .mixedOrders = true) (hB : Bx w b cs)
    (h : ∀ w1, Gr w w1 → w.heap.size = w1.heap.size → Bx w1 b cs → WH P n l.toArray Q (fun w' => Bx w' b cs) l.toArray.size (Array.replicate l.toArray.size false) s w1) : W P n (.region id l.toArray true) Q s w := fun a ha =>
  wp_region_held hm (h w.drew (Gr.drew w) rfl (hB.gr (Gr.drew w)) a ha)
end
end Go.Proofs.Ytkmfjdnkkkejpaa
