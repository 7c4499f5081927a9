/- The engine's rules for the operations on memory, for calls, for a function's beginning and end. No program in sight. -/
import Derived.Test.YtdenlafdbfbkoaaOps
namespace Go.Proofs.Ytdenlafdbfbkoaa
open Go.RowKit
set_option linter.unusedVariables false
set_option linter.unusedSimpArgs false

section
variable {P : Program} {n : Nat} {s : St} {w : World} {d : Option Tmp} {ty : TypeId} {pos : String} {af : Array Edge} {g : Option (Nat × Bool)}

/-! ### Built-ins that only compute -/
theorem q_len {x : Operand} {t e : TypeId} [hk : KSl P t e] {A : Option Addr} {m c : Nat} (hx : ev s x = some (.slice A m c)) :
    QV P n s w ⟨d, .call { callee := .builtin .len, args := #[x], argTypes := #[t] }, ty, pos, af, g⟩ (.int .i64 (m : Int)) := fun a ha => by
  simp only [execOp, resolve, List.map_toArray, List.map_cons, List.map_nil, ha.ev hx, Sem.run_bind, Sem.run_pure, Result.andThen_ok, invoke, builtin]
  simp [Builtin.len_, run_underlying hk.h, goInt]

theorem q_lenS {x : Operand} {t : TypeId} [hk : KStr P t] {b : ByteArray} (hx : ev s x = some (.string b)) :
    QV P n s w ⟨d, .call { callee := .builtin .len, args := #[x], argTypes := #[t] }, ty, pos, af, g⟩ (.int .i64 (b.size : Int)) := fun a ha => by
  simp only [execOp, resolve, List.map_toArray, List.map_cons, List.map_nil, ha.ev hx, Sem.run_bind, Sem.run_pure, Result.andThen_ok, invoke, builtin]
  simp [Builtin.len_, run_underlying hk.h, goInt]

theorem q_min {x y : Operand} {t1 t2 : TypeId} {k k' : IntKind} {i j : Int} (hx : ev s x = some (.int k i)) (hy : ev s y = some (.int k' j)) :
    QV P n s w ⟨d, .call { callee := .builtin .min, args := #[x, y], argTypes := #[t1, t2] }, ty, pos, af, g⟩ (.int k (min i j)) := fun a ha => by
  have e : (if j < i then j else i) = min i j := by omega
  simp only [execOp, resolve, List.map_toArray, List.map_cons, List.map_nil, ha.ev hx, ha.ev hy, Sem.run_bind, Sem.run_pure, Result.andThen_ok, invoke, builtin]
  simp [Builtin.min_, Builtin.min2, e]

theorem q_max {x y : Operand} {t1 t2 : TypeId} {k k' : IntKind} {i j : Int} (hx : ev s x = some (.int k i)) (hy : ev s y = some (.int k' j)) :
    QV P n s w ⟨d, .call { callee := .builtin .max, args := #[x, y], argTypes := #[t1, t2] }, ty, pos, af, g⟩ (.int k (max i j)) := fun a ha => by
  have e : (if i < j then j else i) = max i j := by omega
  simp only [execOp, resolve, List.map_toArray, List.map_cons, List.map_nil, ha.ev hx, ha.ev hy, Sem.run_bind, Sem.run_pure, Result.andThen_ok, invoke, builtin]
  simp [Builtin.max_, Builtin.max2, e]

/-! ### Addresses -/
theorem q_fieldAddr {x : Operand} {t : TypeId} {f off : Nat} [hk : KFld P t f off] {a0 : Addr} {k : Nat} (hx : ev s x = some (pp a0 k)) :
    QV P n s w ⟨d, .fieldAddr t x f, ty, pos, af, g⟩ (pp a0 (k + off)) := fun a ha => by
  simp only [execOp, ha.ev hx, Sem.run_bind, pp, hk.h, Result.andThen_ok, Sem.run_pure, add_add]

theorem q_indexAddr {x y : Operand} {t e : TypeId} {sz : Nat} [hk : KSl P t e] [hz : KSz P e sz] {A : Option Addr} {m c : Nat} {k : IntKind} {i : Int} (j : Nat)
    (hx : ev s x = some (.slice A m c)) (hy : ev s y = some (.int k i)) (hj : i = (j : Int)) (hm : j < m) (hA : A.isSome = true) :
    QV P n s w ⟨d, .indexAddr t x y, ty, pos, af, g⟩ (pp (ea A (j * sz)) 0) := fun a ha => by
  subst hj
  cases A with
  | none => simp at hA
  | some ad =>
    have h1 : ((j : Nat) : Int) < (m : Int) := by omega
    simp only [execOp, ha.ev hx, ha.ev hy, Sem.run_bind]
    simp [Instr.indexAt, asIntOf, run_underlying hk.h, hz.sz, hm, pp, ea, add_add]

theorem q_indexAddrI {x y : Operand} {t e : TypeId} {sz : Nat} [hk : KSl P t e] [hz : KSz P e sz] {A : Option Addr} {m c : Nat} {k : IntKind} {i : Int}
    (hx : ev s x = some (.slice A m c)) (hy : ev s y = some (.int k i)) (h0 : 0 ≤ i) (hm : i < (m : Int)) (hA : A.isSome = true) :
    QV P n s w ⟨d, .indexAddr t x y, ty, pos, af, g⟩ (pp (ea A (i.toNat * sz)) 0) :=
  q_indexAddr i.toNat hx hy (by omega) (by omega) hA

theorem q_nilPP {x : Operand} {a0 : Addr} {k : Nat} (hx : ev s x = some (pp a0 k)) : QV P n s w ⟨d, .nilCheck x, ty, pos, af, g⟩ (pp a0 k) := fun a ha => by
  simp only [execOp, ha.ev hx, pp, Sem.run_pure]

/-! ### Loads -/
theorem run_loadVar_one {t : TypeId} [hk : KOne P t] {a0 : Addr} {u : Value} (h : w.cell? a0 = some u) : (loadVar t a0).run P w = .ok u w := by
  simp [loadVar, hk.h, h]

theorem run_loadVar_agg {t : TypeId} {m : Nat} [hk : KAgg P t m] {a0 : Addr} {l : List Value} (h : Cs w a0 l) (hm : l.length = m) : (loadVar t a0).run P w = .ok (.agg l.toArray) w := by
  have := run_loadCells_list (P := P) w a0 l h
  rw [hm] at this
  simp [loadVar, hk.h, hk.sz, this]

theorem Cs.part {a0 : Addr} {cs l : List Value} {k : Nat} (h : Cs w a0 cs) (hl : (cs.drop k).take l.length = l) : Cs w (a0.add k) l := fun j u hu => by
  rw [add_add]
  refine h _ _ ?_
  rw [← hl, List.getElem?_take] at hu
  split at hu
  · simpa using hu
  · cases hu

theorem q_load1 {x : Operand} {t : TypeId} [hk : KOne P t] {a0 : Addr} {k : Nat} {cs : List Value} {u : Value} (hx : ev s x = some (pp a0 k)) (hc : Cs w a0 cs) (hu : cs[k]? = some u) :
    QV P n s w ⟨d, .load t x, ty, pos, af, g⟩ u := fun a ha => by
  have := run_loadVar_one (P := P) (t := t) (hc k u hu)
  simp only [execOp, ha.ev hx, pp, Sem.run_bind, Instr.loadAt, Instr.sureAddr, Sem.run_pure, Result.andThen_ok, this]

theorem q_loadA {x : Operand} {t : TypeId} {m : Nat} [hk : KAgg P t m] {a0 : Addr} {cs : List Value} (hx : ev s x = some (pp a0 0)) (hc : Cs w a0 cs) (hm : cs.length = m) :
    QV P n s w ⟨d, .load t x, ty, pos, af, g⟩ (.agg cs.toArray) := fun a ha => by
  have := run_loadVar_agg (P := P) (t := t) hc hm
  have e : a0.add 0 = a0 := by simp [Addr.add]
  simp only [execOp, ha.ev hx, pp, e, Sem.run_bind, Instr.loadAt, Instr.sureAddr, Sem.run_pure, Result.andThen_ok, this]

theorem q_loadS {x : Operand} {t : TypeId} {m : Nat} [hk : KAgg P t m] {a0 : Addr} {k : Nat} {cs l : List Value} (hx : ev s x = some (pp a0 k)) (hc : Cs w a0 cs) (hl : (cs.drop k).take m = l) (hm : l.length = m) :
    QV P n s w ⟨d, .load t x, ty, pos, af, g⟩ (.agg l.toArray) := fun a ha => by
  have := run_loadVar_agg (P := P) (t := t) (hc.part (by rw [hm]; exact hl)) hm
  simp only [execOp, ha.ev hx, pp, Sem.run_bind, Instr.loadAt, Instr.sureAddr, Sem.run_pure, Result.andThen_ok, this]

/-! ### New variables -/
theorem st_new {v : Value} {cs : List Value} {K : Value → World → Prop} {a : Act} {o : Oper} {e : TypeId} (hc : v.cells = cs.toArray)
    (hr : (execOp a.eval o).run P w = .ok (.value (.pointer (some ⟨w.heap.size, 0, none⟩))) (w.alloc (.cells v.cells e)))
    (h : ∀ b w', w.heap.size = b → Gr w w' → w.heap.size < w'.heap.size → Bx w' b cs → K (pp ⟨b, 0, none⟩ 0) w')
    (KA : Act → World → Prop) (QA : Exit → Act → World → Prop) (hk : ∀ v w', K v w' → KA (a.put o.dst v) w') : o.wp P a w KA QA := by
  unfold Oper.wp
  rw [hr]
  refine hk _ _ ?_
  have := h w.heap.size (w.alloc (.cells v.cells e)) rfl (Gr.alloc w _) (by simp) ⟨e, by rw [hc]; exact heap_alloc_new w _⟩
  simpa [pp, Addr.add] using this

theorem st_box {x : Operand} {e : TypeId} {v : Value} {cs : List Value} {K : Value → World → Prop} (hx : ev s x = some v) (hc : v.cells = cs.toArray)
    (h : ∀ b w', w.heap.size = b → Gr w w' → w.heap.size < w'.heap.size → Bx w' b cs → K (pp ⟨b, 0, none⟩ 0) w') :
    ST P n s w ⟨d, .box e x, ty, pos, af, g⟩ K := fun a ha KA QA hk =>
  st_new (e := e) hc (by simp only [execOp, ha.ev hx]; simp [Instr.box, newVar, newRow]) h KA QA hk

theorem st_alloc {e : TypeId} {z : Value} {cs : List Value} [hz : KZ P e z cs] {K : Value → World → Prop}
    (h : ∀ b w', w.heap.size = b → Gr w w' → w.heap.size < w'.heap.size → Bx w' b cs → K (pp ⟨b, 0, none⟩ 0) w') :
    ST P n s w ⟨d, .alloc e, ty, pos, af, g⟩ K := fun a ha KA QA hk =>
  st_new (e := e) hz.hc (by simp only [execOp]; simp [Instr.alloc, hz.hz, newVar, newRow]) h KA QA hk

/-! ### Stores -/
def splice (cs : List Value) (i : Nat) (vs : List Value) : List Value := cs.take i ++ vs ++ cs.drop (i + vs.length)

theorem st_store {x y : Operand} {t : TypeId} {m : Nat} [hz : KSz P t m] {a0 : Addr} {b o k : Nat} {cs vl : List Value} {v : Value} {K : Value → World → Prop}
    (hx : ev s x = some (pp a0 k)) (hy : ev s y = some v) (ha0 : a0 = ⟨b, o, none⟩) (hv : v.cells = vl.toArray) (hm : vl.length = m) (h1 : vl.all (·.oneCell') = true)
    (hB : Bx w b cs) (hble : Nat.ble (o + k + vl.length) cs.length = true)
    (h : ∀ w', w.grownBy w' (some b) → w.heap.size = w'.heap.size → Bx w' b (splice cs (o + k) vl) → K undef w') :
    ST P n s w ⟨d, .store t x y, ty, pos, af, g⟩ K := fun a ha KA QA hk => by
  have hle : o + k + vl.length ≤ cs.length := Nat.le_of_ble_eq_true hble
  obtain ⟨te, hB⟩ := hB
  subst ha0
  have hs := run_storeCells_at P b (o + k) te vl 0 cs.toArray w hB (by simpa using hle) (by simpa using h1)
  simp only [Nat.add_zero] at hs
  have hr : (execOp a.eval ⟨d, .store t x y, ty, pos, af, g⟩).run P w = .ok .skip (w.setRow b (splice cs (o + k) vl).toArray) := by
    simp only [execOp, ha.ev hx, ha.ev hy, pp, add_mid]
    simp [Instr.storeAt, Instr.sureAddr, storeVar, hz.sz, hv, hm, hs, splice]
  unfold Oper.wp
  rw [hr]
  refine hk _ _ (h _ ⟨rfl, rfl, rfl, by simp [World.setRow], fun k _ hne => setRow_other w b k _ (fun e => hne (by rw [e]))⟩ (by simp [World.setRow]) ?_)
  exact ⟨te, setRow_heap w b _ _ te _ hB⟩

/-! ### Calls -/
def evs (s : St) : List Operand → Option (List Value)
  | [] => some []
  | x :: r => match ev s x, evs s r with
    | some v, some vs => some (v :: vs)
    | _, _ => none

theorem Rep.evs {a : Act} (ha : Rep n s a) : ∀ {l : List Operand} {vs : List Value}, evs s l = some vs → l.map a.eval = vs
  | [], vs, h => by simpa [Go.Proofs.Ytdenlafdbfbkoaa.evs] using h
  | x :: r, vs, h => by
    simp only [Go.Proofs.Ytdenlafdbfbkoaa.evs] at h
    split at h
    · rename_i v us h1 h2
      cases h
      simp [ha.ev h1, ha.evs h2]
    · cases h

theorem st_call {f : FuncId} {fn : Func} {l : List Operand} {vs : List Value} {ts : Array TypeId} {R : Ending → World → Prop} {K : Value → World → Prop}
    (hf : P.funcs[f]? = some fn) (hnn : (fn.name == "runtime.NumGoroutine") = false) (hb : fn.body.isNone = false) (hl : evs s l = some vs) (hc : Calls P f vs.toArray w R)
    (h : ∀ e w', R e w' → ∃ v, e = .returned v ∧ K v w') :
    ST P n s w ⟨d, .call { callee := .value (.func f), args := l.toArray, argTypes := ts }, ty, pos, af, g⟩ K := fun a ha KA QA hk => by
  have hr : (execOp a.eval ⟨d, .call { callee := .value (.func f), args := l.toArray, argTypes := ts }, ty, pos, af, g⟩).run P w = .ok (.enter f vs.toArray) w := by
    have he := ha.evs hl
    have h1 : ¬ fn.name = "runtime.NumGoroutine" := by simpa using hnn
    have h2 : ¬ fn.body = Option.none := fun e => by simp [e] at hb
    have hcf : (callFunc f vs.toArray).run P w = .ok (.enter f vs.toArray) w := by
      unfold callFunc program
      simp only [Sem.run_bind]
      show (Result.ok P w).andThen _ = _
      simp [hf, h1, h2]
    simp only [execOp, resolve, Deferred.ofValue, Act.eval, invoke]
    simp [he, hcf]
  unfold Oper.wp
  rw [hr]
  refine hc.mono fun e w' hR => ?_
  obtain ⟨v, rfl, hK⟩ := h e w' hR
  exact hk _ _ hK

/-! ### A function's beginning and end -/
def argSt : List Value → Nat → St
  | [], _ => []
  | v :: r, i => (i, v) :: argSt r (i + 1)

theorem lk_argSt : ∀ (l : List Value) (i t : Nat) (v : Value), lk (argSt l i) t = some v → i ≤ t ∧ l[t - i]? = some v
  | [], i, t, v, h => by simp [argSt, lk] at h
  | u :: r, i, t, v, h => by
    simp only [argSt, lk] at h
    cases hb : Nat.beq i t
    · rw [hb] at h
      have hne : i ≠ t := fun e => by subst e; simp at hb
      obtain ⟨h1, h2⟩ := lk_argSt r (i + 1) t v h
      refine ⟨by omega, ?_⟩
      have : t - i = (t - (i + 1)) + 1 := by omega
      rw [this, List.getElem?_cons_succ]
      exact h2
    · rw [hb] at h
      have := Nat.eq_of_beq_eq_true hb
      subst this
      simp at h
      subst h
      simp

theorem Rep.at2 {a : Act} (ha : Rep n s a) {t : Nat} {v : Value} (h : lk s t = some v) : a.tmps[t]?.getD undef = v := by
  rw [← Array.getD_eq_getD_getElem?]
  exact ha.at_ t v h

/-- The results of a function, off the known slots. -/
def RV (P : Program) (n : Nat) (fn : Func) (s : St) (w : World) (v : Value) : Prop := ∀ a, Rep n s a → (results fn a.tmps).run P w = .ok v w

def fnPost (P : Program) (n : Nat) (fn : Func) (R : Ending → World → Prop) : Exit → St → World → Prop
  | .normal, s, w => ∃ v, RV P n fn s w v ∧ R (.returned v) w
  | .ret, s, w => ∃ v, RV P n fn s w v ∧ R (.returned v) w
  | _, _, _ => False

theorem calls_W {f : FuncId} {fn : Func} {c : Code} {l : List Value} {R : Ending → World → Prop} (hf : P.funcs[f]? = some fn) (hb : fn.body = some c) (hn : fn.ntmps = n) (hsz : Nat.ble l.length n = true)
    (h : W P n c (fnPost P n fn R) (argSt l 0) w) : Calls P f l.toArray w R := by
  refine calls_of_wp hf hb ?_
  have hle : l.length ≤ n := Nat.le_of_ble_eq_true hsz
  refine wp_mono (h _ ⟨rfl, by simp [hn]; omega, fun t v hv => ?_⟩) fun e a' w' hq => ?_
  · obtain ⟨h1, h2⟩ := lk_argSt l 0 t v hv
    simp only [Nat.sub_zero] at h2
    have hlt : t < l.length := (List.getElem?_eq_some_iff.1 h2).1
    rw [Array.getD_eq_getD_getElem?]
    simp only [List.size_toArray]
    rw [Array.getElem?_append_left (by simpa using hlt)]
    simp [h2]
  · cases e with
    | normal => obtain ⟨s', hr, v, hv, hR⟩ := hq; exact ⟨hr.defers, v, hv a' hr, hR⟩
    | ret => obtain ⟨s', hr, v, hv, hR⟩ := hq; exact ⟨hr.defers, v, hv a' hr, hR⟩
    | panic c => exact (show False from hq).elim
    | outgrown => exact hq.elim
    | exit i => obtain ⟨s', hr, hk⟩ := hq; exact hk
    | goto l => obtain ⟨s', hr, hk⟩ := hq; exact hk

theorem rv1 {fn : Func} {t : Tmp} {v : Value} (h : fn.results = #[.tmp t]) (hv : lk s t = some v) : RV P n fn s w v := fun a ha => by
  rw [results_tmp h, ha.at_ t v hv]
theorem rv0 {fn : Func} (h : fn.results = #[]) : RV P n fn s w (.tuple #[]) := fun a ha => results_none h _ _ _
theorem rv2 {fn : Func} {t u : Tmp} {v x : Value} (h : fn.results = #[.tmp t, .tmp u]) (hv : lk s t = some v) (hx : lk s u = some x) : RV P n fn s w (.tuple #[v, x]) := fun a ha => by
  rw [results_tmp2 h, ha.at_ t v hv, ha.at_ u x hx]
theorem rv3 {fn : Func} {t u q : Tmp} {v x y : Value} (h : fn.results = #[.tmp t, .tmp u, .tmp q]) (hv : lk s t = some v) (hx : lk s u = some x) (hy : lk s q = some y) : RV P n fn s w (.tuple #[v, x, y]) := fun a ha => by
  simp [results, h, ha.at2 hv, ha.at2 hx, ha.at2 hy]
theorem rvC {fn : Func} {t : Tmp} {T : TypeId} {m : Nat} [hk : KAgg P T m] {a0 : Addr} {cs : List Value} (h : fn.results = #[.cell t T]) (hv : lk s t = some (pp a0 0)) (hc : Cs w a0 cs) (hm : cs.length = m) :
    RV P n fn s w (.agg cs.toArray) := fun a ha => by
  have := run_loadVar_agg (P := P) (t := T) hc hm
  have e : a0.add 0 = a0 := by simp [Addr.add]
  simp [results, h, ha.at2 hv, pp, asAddr, e, this]
theorem rvCT {fn : Func} {t u : Tmp} {T : TypeId} {m : Nat} [hk : KAgg P T m] {a0 : Addr} {cs : List Value} {x : Value} (h : fn.results = #[.cell t T, .tmp u]) (hv : lk s t = some (pp a0 0)) (hx : lk s u = some x) (hc : Cs w a0 cs) (hm : cs.length = m) :
    RV P n fn s w (.tuple #[.agg cs.toArray, x]) := fun a ha => by
  have := run_loadVar_agg (P := P) (t := T) hc hm
  have e : a0.add 0 = a0 := by simp [Addr.add]
  simp [results, h, ha.at2 hv, ha.at2 hx, pp, asAddr, e, this]

theorem fret {fn : Func} {R : Ending → World → Prop} {v : Value} (hv : RV P n fn s w v) (h : R (.returned v) w) : fnPost P n fn R .ret s w := ⟨v, hv, h⟩
theorem fnorm {fn : Func} {R : Ending → World → Prop} {v : Value} (hv : RV P n fn s w v) (h : R (.returned v) w) : fnPost P n fn R .normal s w := ⟨v, hv, h⟩

theorem Gr.st {a w w' : World} {b : Nat} (h : Gr a w) (k : w.grownBy w' (some b)) (hb : a.heap.size ≤ b) : Gr a w' :=
  Below.grown h k h.size (fun c hc => by cases hc; exact hb)

/-- A call that leaves one value and a grown world. -/
theorem st_callV {f : FuncId} {fn : Func} {l : List Operand} {vs : List Value} {ts : Array TypeId} {v : Value} {K : Value → World → Prop}
    (hf : P.funcs[f]? = some fn) (hnn : (fn.name == "runtime.NumGoroutine") = false) (hb : fn.body.isNone = false) (hl : evs s l = some vs)
    (hc : Calls P f vs.toArray w (fun e w' => e = .returned v ∧ Gr w w')) (h : ∀ w', Gr w w' → w.heap.size ≤ w'.heap.size → K v w') :
    ST P n s w ⟨d, .call { callee := .value (.func f), args := l.toArray, argTypes := ts }, ty, pos, af, g⟩ K :=
  st_call hf hnn hb hl hc fun e w' ⟨he, hg⟩ => ⟨v, he, h w' hg hg.size⟩

/-- A call that only computes. -/
theorem st_callP {f : FuncId} {fn : Func} {l : List Operand} {vs : List Value} {ts : Array TypeId} {v : Value} {K : Value → World → Prop}
    (hf : P.funcs[f]? = some fn) (hnn : (fn.name == "runtime.NumGoroutine") = false) (hb : fn.body.isNone = false) (hl : evs s l = some vs)
    (hc : Calls P f vs.toArray w (fun e w' => e = .returned v ∧ w = w')) (h : K v w) :
    ST P n s w ⟨d, .call { callee := .value (.func f), args := l.toArray, argTypes := ts }, ty, pos, af, g⟩ K :=
  st_call hf hnn hb hl hc fun e w' ⟨he, hg⟩ => ⟨v, he, by subst hg; exact h⟩

theorem st_callVB {f : FuncId} {fn : Func} {l : List Operand} {vs : List Value} {ts : Array TypeId} {b : Bool} {K : Value → World → Prop}
    (hf : P.funcs[f]? = some fn) (hnn : (fn.name == "runtime.NumGoroutine") = false) (hb : fn.body.isNone = false) (hl : evs s l = some vs)
    (hc : Calls P f vs.toArray w (fun e w' => e = .returned (.bool b) ∧ Gr w w'))
    (ht : ∀ w', Gr w w' → w.heap.size ≤ w'.heap.size → b = true → K (.bool true) w') (hff : ∀ w', Gr w w' → w.heap.size ≤ w'.heap.size → b = false → K (.bool false) w') :
    ST P n s w ⟨d, .call { callee := .value (.func f), args := l.toArray, argTypes := ts }, ty, pos, af, g⟩ K :=
  st_callV hf hnn hb hl hc fun w' hg hz => by
    cases b
    · exact hff w' hg hz rfl
    · exact ht w' hg hz rfl

theorem st_callPB {f : FuncId} {fn : Func} {l : List Operand} {vs : List Value} {ts : Array TypeId} {b : Bool} {K : Value → World → Prop}
    (hf : P.funcs[f]? = some fn) (hnn : (fn.name == "runtime.NumGoroutine") = false) (hb : fn.body.isNone = false) (hl : evs s l = some vs)
    (hc : Calls P f vs.toArray w (fun e w' => e = .returned (.bool b) ∧ w = w')) (ht : b = true → K (.bool true) w) (hff : b = false → K (.bool false) w) :
    ST P n s w ⟨d, .call { callee := .value (.func f), args := l.toArray, argTypes := ts }, ty, pos, af, g⟩ K :=
  st_callP hf hnn hb hl hc (by
    cases b
    · exact hff rfl
    · exact ht rfl)

end
end Go.Proofs.Ytdenlafdbfbkoaa
