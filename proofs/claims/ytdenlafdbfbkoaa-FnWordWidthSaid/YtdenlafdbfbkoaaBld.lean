/- strings.Builder: what its methods do, in the engine's words. -/
import Derived.Test.YtdenlafdbfbkoaaTy
import Derived.Test.YtdenlafdbfbkoaaStr
import Derived.Lib.Builder
import Derived.Lib.UnsafeStr
import Derived.Laws.Externs
namespace Go.Proofs.Ytdenlafdbfbkoaa
open Go.RowKit
set_option linter.unusedVariables false
set_option linter.unusedSimpArgs false

section
variable {P : Program} {n : Nat} {s : St} {w : World} {d : Option Tmp} {ty : TypeId} {pos : String} {af : Array Edge} {g : Option (Nat × Bool)}

theorem q_eqNil {x : Operand} {t t2 te : TypeId} {p : Option Addr} {b : Bool} (ht : P.underlying t = some (.pointer te)) (hx : ev s x = some (.pointer p)) (hb : p.isNone = b) :
    QV P n s w ⟨d, .binOp .eql t x (.const (.pointer none)) t2, ty, pos, af, g⟩ (.bool b) := fun a ha => by
  subst hb
  have h : ∀ k : Nat, (Op.equalIn (k + 1) t (.pointer p) (.pointer none)).run P w = .ok p.isNone w := fun k => by
    cases p <;> simp [Op.equalIn, run_underlying ht]
  have e : a.eval (.const (.pointer none)) = .pointer none := rfl
  simp only [execOp, ha.ev hx, e, Sem.run_bind]
  simp [eqGuard, binOp, Op.equal, Op.maxDepth, h 9999]

theorem q_eqNilP {x : Operand} {t t2 te : TypeId} {p : Addr} {k : Nat} (ht : P.underlying t = some (.pointer te)) (hx : ev s x = some (pp p k)) :
    QV P n s w ⟨d, .binOp .eql t x (.const (.pointer none)) t2, ty, pos, af, g⟩ (.bool false) := q_eqNil ht hx rfl

theorem q_neqSame {x y : Operand} {t t2 te : TypeId} {j : TypeInfo} {p : Addr} {k : Nat} (ht : P.underlying t = some (.pointer te)) (hi : P.info? te = some j) (hx : ev s x = some (pp p k)) (hy : ev s y = some (pp p k)) :
    QV P n s w ⟨d, .binOp .neq t x y t2, ty, pos, af, g⟩ (.bool false) := fun a ha => by
  have h := Lib.run_neq_ptr_same (P := P) w (p.add k) ht hi
  simp only [execOp, ha.ev hx, ha.ev hy, Sem.run_bind, pp]
  simp [eqGuard, h]

theorem q_cnv {x : Operand} {t1 t2 : TypeId} {u v : Value} (hx : ev s x = some u) (h : (convert t1 t2 u).run P w = .ok v w) :
    QV P n s w ⟨d, .convert t1 t2 x, ty, pos, af, g⟩ v := fun a ha => by
  simp only [execOp, ha.ev hx, Sem.run_bind]
  simp [h]

theorem q_noEscape {f : FuncId} {fn : Func} {l : List Operand} {ts : Array TypeId} {v : Value} (hf : P.funcs[f]? = some fn) (hnn : (fn.name == "runtime.NumGoroutine") = false) (hb : fn.body.isNone = true)
    (hn : Extern.findNext fn = none) (he : Extern.find fn = some Extern.AbiNoEscape.same) (hl : evs s l = some [v]) :
    QV P n s w ⟨d, .call { callee := .value (.func f), args := l.toArray, argTypes := ts }, ty, pos, af, g⟩ v := fun a ha => by
  have h := run_callFunc_extern (P := P) hf hnn hb hn he #[v] w
  rw [Lib.run_noEscape] at h
  have hv := ha.evs hl
  simp only [execOp, resolve, Deferred.ofValue, Act.eval, invoke]
  simp [hv, h]

theorem q_sliceData {x : Operand} {t : TypeId} {p : Addr} {m c : Nat} (hx : ev s x = some (.slice (some p) m c)) (hc : c ≠ 0) :
    QV P n s w ⟨d, .call { callee := .builtin .unsafeSliceData, args := #[x], argTypes := #[t] }, ty, pos, af, g⟩ (.pointer (some p)) := fun a ha => by
  have h := Lib.run_unsafeSliceData_row (P := P) w #[t] ty p m c hc
  simp only [execOp, resolve, List.map_toArray, List.map_cons, List.map_nil, ha.ev hx, Sem.run_bind, Sem.run_pure, Result.andThen_ok, invoke, builtin]
  simp [h]

theorem grown_freeze (w : World) (b o : Nat) (m : Nat) : w.grownBy (w.freeze ⟨b, o, none⟩ m) (some b) := by
  unfold World.freeze
  split
  · exact ⟨rfl, rfl, rfl, Nat.le_refl _, fun _ _ _ => rfl⟩
  · refine ⟨rfl, rfl, rfl, by simp, fun k hk hne => ?_⟩
    simp only [Array.getElem?_modify]
    rw [if_neg (fun e => hne (by rw [e]))]

theorem st_unsafeString {x y : Operand} {pt it e : TypeId} {b : Nat} {l : List UInt8} {cur : Array Value} {K : Value → World → Prop} (hp : P.underlying pt = some (.pointer e)) (hc : P.cellsOf e = 1)
    (hx : ev s x = some (.pointer (some ⟨b, 0, none⟩))) (hy : ev s y = some (.int .i64 (l.length : Int))) (h0 : l ≠ []) (hg : w.heap[b]? = some (.cells cur e (0, 0))) (hl : l.length ≤ cur.size) (h63 : l.length ≤ 9223372036854775807)
    (hcell : ∀ j x, l[j]? = some x → w.cell? ((⟨b, 0, none⟩ : Addr).add j) = some (.int .u8 (x.toNat : Int)))
    (h : ∀ w', w.grownBy w' (some b) → w.heap.size ≤ w'.heap.size → K (str l) w') :
    ST P n s w ⟨d, .call { callee := .builtin .unsafeString, args := #[x, y], argTypes := #[pt, it] }, ty, pos, af, g⟩ K := fun a ha KA QA hk => by
  have hU := Lib.run_unsafeString_row (P := P) w pt it ty e hp hc b cur.size (by simp [World.shape?, hg]) l h0 hl h63 hcell
  have hr : (execOp a.eval ⟨d, .call { callee := .builtin .unsafeString, args := #[x, y], argTypes := #[pt, it] }, ty, pos, af, g⟩).run P w = .ok (.value (.string ⟨l.toArray⟩)) (w.freeze ⟨b, 0, none⟩ l.length) := by
    simp only [execOp, resolve, List.map_toArray, List.map_cons, List.map_nil, ha.ev hx, ha.ev hy, Sem.run_bind, Sem.run_pure, Result.andThen_ok, invoke, builtin]
    simp [hU]
  unfold Oper.wp
  rw [hr]
  have gg := grown_freeze w b 0 l.length
  exact hk _ _ (h _ gg gg.size)

/-! ### Two blocks that move -/
structure Mb (b : Nat) (A : Option Addr) (w w' : World) : Prop where
  os : w'.os = w.os
  tape : w'.tape = w.tape
  output : w'.output = w.output
  size : w.heap.size ≤ w'.heap.size
  block : ∀ k, k < w.heap.size → k ≠ b → A.map (·.block) ≠ some k → w'.heap[k]? = w.heap[k]?

theorem Mb.refl (b : Nat) (A : Option Addr) (w : World) : Mb b A w w := ⟨rfl, rfl, rfl, Nat.le_refl _, fun _ _ _ _ => rfl⟩
theorem Mb.trans {b : Nat} {A : Option Addr} {x y z : World} (h : Mb b A x y) (k : Mb b A y z) : Mb b A x z :=
  ⟨k.os.trans h.os, k.tape.trans h.tape, k.output.trans h.output, Nat.le_trans h.size k.size, fun i hi h1 h2 => (k.block i (Nat.lt_of_lt_of_le hi h.size) h1 h2).trans (h.block i hi h1 h2)⟩
theorem Mb.gr {b : Nat} {A : Option Addr} {x y z : World} (h : Mb b A x y) (k : Gr y z) : Mb b A x z :=
  h.trans ⟨k.os, k.tape, k.output, k.size, fun i hi _ _ => k.block i hi⟩
theorem Mb.st {b : Nat} {A : Option Addr} {x y z : World} (h : Mb b A x y) (k : y.grownBy z (some b)) : Mb b A x z :=
  h.trans ⟨k.os, k.tape, k.output, k.size, fun i hi h1 _ => k.block i hi (fun e => h1 (Option.some.inj e))⟩
theorem Mb.ap {b : Nat} {A : Option Addr} {x y z : World} (h : Mb b A x y) (k : y.grownBy z (A.map (·.block))) : Mb b A x z :=
  h.trans ⟨k.os, k.tape, k.output, k.size, fun i hi _ h2 => k.block i hi (Ne.symm h2)⟩
theorem Gr.mb {a w w' : World} {b : Nat} {A : Option Addr} (h : Gr a w) (k : Mb b A w w') (hb : a.heap.size ≤ b) (hA : ∀ x, A = some x → a.heap.size ≤ x.block) : Gr a w' :=
  ⟨k.os.trans h.os, k.tape.trans h.tape, k.output.trans h.output, Nat.le_trans h.size k.size, fun i hi => (k.block i (Nat.lt_of_lt_of_le hi h.size) (by omega) (fun e => by
    obtain ⟨x, hx, hq⟩ := Option.map_eq_some_iff.1 e
    have := hA x hx
    omega)).trans (h.block i hi)⟩

theorem Ow.keep {α : Type} {w w' : World} {base : Nat} {e : TypeId} {sz : Nat} {enc : α → List Value} {A : Option Addr} {c : Nat} {xs : List α} (h : Ow w base e sz enc A c xs) (hk : ∀ x, A = some x → w'.heap[x.block]? = w.heap[x.block]?) : Ow w' base e sz enc A c xs := by
  refine ⟨h.row.1, ?_⟩
  rcases h.row.2 with h0 | ⟨q, cap, cur, he, hb, hg, hle, hm, hsz, htk⟩
  · exact .inl h0
  · have hA : A = some ⟨q, 0, none⟩ := by cases he; rfl
    exact .inr ⟨q, cap, cur, he, hb, (hk _ hA).trans hg, hle, hm, hsz, htk⟩

theorem Ow.mb {α : Type} {w w' : World} {base : Nat} {e : TypeId} {sz : Nat} {enc : α → List Value} {A V : Option Addr} {b c : Nat} {xs : List α} (h : Ow w base e sz enc V c xs) (k : Mb b A w w') (hb : b < base) (hne : ∀ x y, A = some x → V = some y → x.block ≠ y.block) : Ow w' base e sz enc V c xs :=
  h.keep fun y hy => k.block y.block (h.block y hy).2 (by have := (h.block y hy).1; omega) (fun e => by
    obtain ⟨x, hx, hq⟩ := Option.map_eq_some_iff.1 e
    exact hne x y hx hy hq)

def encC (x : UInt8) : List Value := [.int .u8 (x.toNat : Int)]

end

theorem Bx.aq {α : Type} {w w' : World} {base : Nat} {e : TypeId} {sz : Nat} {enc : α → List Value} {A : Option Addr} {c b : Nat} {xs : List α} {cs : List Value} (hO : Ow w base e sz enc A c xs) (hb : b < base) (k : w.grownBy w' (A.map (·.block))) (h : Bx w b cs) : Bx w' b cs := by
  cases A with
  | none => exact h.gr (Gr.grown k)
  | some ad => exact h.mv (c := ad.block) k (by have := (hO.block ad rfl).1; omega)

theorem bx_of {w : World} {b : Nat} {cs : List Value} {e : TypeId} (h : w.heap[b]? = some (.cells cs.toArray e (0, 0))) : Bx w b cs := ⟨e, h⟩

/-- A builder in a block of its own, its bytes in a row that the call owns. -/
structure Bd (w : World) (base b : Nat) (l : List UInt8) (A : Option Addr) (c : Nat) : Prop where
  hd : w.heap[b]? = some (.cells #[.pointer none, .slice A l.length c] 120 (0, 0)) ∨ Bx w b [pp ⟨b, 0, none⟩ 0, .slice A l.length c]
  ow : Ow w base 5 1 encC A c l
  lt : b < base
  le : base ≤ w.heap.size

theorem Bd.bx {w : World} {base b : Nat} {l : List UInt8} {A : Option Addr} {c : Nat} (h : Bd w base b l A c) : ∃ p, Bx w b [p, .slice A l.length c] := by
  rcases h.hd with h | h
  · exact ⟨_, _, h⟩
  · exact ⟨_, h⟩

theorem Bd.gr {w w' : World} {base b : Nat} {l : List UInt8} {A : Option Addr} {c : Nat} (g : Gr w w') (h : Bd w base b l A c) : Bd w' base b l A c := by
  have hb : b < w.heap.size := Nat.lt_of_lt_of_le h.lt h.le
  refine ⟨?_, h.ow.gr g, h.lt, Nat.le_trans h.le g.size⟩
  rcases h.hd with h | h
  · exact .inl ((g.block b hb).trans h)
  · exact .inr (h.gr g)

/-- A write to another block. -/
theorem Bd.mv {w w' : World} {base b q : Nat} {l : List UInt8} {A : Option Addr} {c : Nat} (g : w.grownBy w' (some q)) (hq : b < q) (hA : ∀ x, A = some x → x.block ≠ q) (h : Bd w base b l A c) : Bd w' base b l A c := by
  have hb : b < w.heap.size := Nat.lt_of_lt_of_le h.lt h.le
  refine ⟨?_, h.ow.keep fun x hx => g.block _ (h.ow.block x hx).2 (fun e => hA x hx (Option.some.inj e)), h.lt, Nat.le_trans h.le g.size⟩
  have hk : w'.heap[b]? = w.heap[b]? := g.block b hb (fun e => by have := Option.some.inj e; omega)
  rcases h.hd with h | ⟨e, h⟩
  · exact .inl (hk.trans h)
  · exact .inr ⟨e, hk.trans h⟩

set_option maxHeartbeats 1000000
attribute [local irreducible] W WL QV ST RV Th Bl fnPost Cs Bx pp ea Calls
set_option maxRecDepth 100000

theorem bld_copyCheck (w : World) (base b : Nat) (l : List UInt8) (A : Option Addr) (c : Nat) (h : Bd w base b l A c) :
    Calls Try.prog 118 #[pp ⟨b, 0, none⟩ 0] w fun e w' => e = .returned (.tuple #[]) ∧ w.grownBy w' (some b) ∧ w.heap.size = w'.heap.size ∧ Bx w' b [pp ⟨b, 0, none⟩ 0, .slice A l.length c] := by
  obtain ⟨j, hj, hjs⟩ := Option.map_eq_some_iff.1 (show (Try.prog.info? 120).map (·.size) = some 2 by kernel_rfl)
  have hlies : liesAt Try.prog Try.prog.depth 120 (2 / Try.prog.cellsOf 120) 0 120 1 = true := by kernel_rfl
  have uP := Try.underlying118
  have fE := Try.func120
  rcases h.hd with h1 | h1
  · have hB : Bx w b [.pointer none, .slice A l.length c] := bx_of h1
    have epp : pp ⟨b, 0, none⟩ 0 = .pointer (some ⟨b, 0, none⟩) := by simp [pp, Addr.add]
    have hsh : w.shape? b = some (120, 2) := by simp [World.shape?, h1]
    have c1 := Lib.run_to_unsafe (P := Try.prog) w ⟨b, 0, none⟩ Try.underlying118 Try.underlying132 hj (by rw [hjs]; decide) hsh (Nat.zero_lt_succ 1)
    have c2 := Lib.run_from_unsafe (P := Try.prog) w ⟨b, 0, none⟩ Try.underlying132 Try.underlying118 hj hsh hlies
    rw [← epp] at c1 c2
    have k1 : (pp ⟨b, 0, none⟩ 0).cells = [pp ⟨b, 0, none⟩ 0].toArray := by rw [epp]; rfl
    have k2 : [pp ⟨b, 0, none⟩ 0].all (·.oneCell') = true := by rw [epp]; rfl
    refine calls_W Try.func118 rfl Try.ntmps118 rfl ?_
    repeat' (first | refine wl_nil ?_ | refine Th_normal ?_ | refine W_seq ?_ | refine W_region ?_ | refine W_condT rfl ?_ | refine W_condF rfl ?_ | refine W_block ?_ | refine W_ret ?_ | refine W_exit ?_ | refine W_skip ?_ | refine Th_ret ?_ | refine Th_exit ?_ | refine Bl_normal ?_ | refine Bl_ret ?_ | refine Bl_exit rfl ?_ | refine Bl_pass rfl ?_ | refine W_condB rfl (fun tt => ?_) (fun tt => ?_) | (show fnPost _ _ _ _ _ _ _; refine fret (rv0 rfl) ?_) | (show WL _ _ _ _ _ _ _; first | (refine wl_val rfl rfl (q_eqNil uP rfl rfl) ?_) | (refine wl_val rfl rfl (q_cnv rfl c1) ?_) | (refine wl_val rfl rfl (q_cnv rfl c2) ?_) | (refine wl_val rfl rfl (q_noEscape fE (by kernel_rfl) (by kernel_rfl) (by kernel_rfl) (by kernel_rfl) rfl) ?_) | (refine wl_do rfl rfl ?_; refine st_store rfl rfl rfl k1 rfl k2 hB rfl (fun w1 g1 z1 f1 => ?_)) | refine wl_val rfl rfl (q_pv rfl) ?_ | refine wl_val rfl rfl (q_nilPP rfl) ?_ | refine wl_val rfl rfl (q_fieldAddr rfl) ?_ | refine wl_val rfl rfl (q_loadA rfl Cs.A (by rfl)) ?_ | refine wl_val rfl rfl (q_load1 rfl Cs.A (by rfl)) ?_ | refine wl_val rfl rfl (q_loadS rfl Cs.A (by rfl) (by rfl)) ?_ | (refine wl_do rfl rfl ?_; first | refine st_store rfl rfl rfl rfl rfl rfl Bx.A (by first | rfl | (rw [Nat.ble_eq]; simp; omega)) (fun w1 g1 z1 f1 => ?_)) | refine wl_val rfl rfl (q_eql1 rfl rfl (by omega)) ?_ | refine wl_val rfl rfl (q_eql0 rfl rfl (by omega)) ?_ | refine wl_eql rfl rfl rfl rfl (fun tt => ?_) (fun tt => ?_) | refine wl_val rfl rfl (q_neq1 rfl rfl (by omega)) ?_ | refine wl_val rfl rfl (q_neq0 rfl rfl (by omega)) ?_ | refine wl_neq rfl rfl rfl rfl (fun tt => ?_) (fun tt => ?_) | refine wl_val rfl rfl (q_eqlB rfl rfl) ?_ | refine wl_val rfl rfl (q_neqB rfl rfl) ?_ | refine wl_val rfl rfl (q_conv rfl (IntWalk.i64_in _ (by omega))) ?_))
    exact fnorm (rv0 rfl) ⟨rfl, by assumption, by assumption, by assumption⟩
  · refine calls_W Try.func118 rfl Try.ntmps118 rfl ?_
    repeat' (first | refine wl_nil ?_ | refine Th_normal ?_ | refine W_seq ?_ | refine W_region ?_ | refine W_condT rfl ?_ | refine W_condF rfl ?_ | refine W_block ?_ | refine W_ret ?_ | refine W_exit ?_ | refine W_skip ?_ | refine Th_ret ?_ | refine Th_exit ?_ | refine Bl_normal ?_ | refine Bl_ret ?_ | refine Bl_exit rfl ?_ | refine Bl_pass rfl ?_ | refine W_condB rfl (fun tt => ?_) (fun tt => ?_) | (show fnPost _ _ _ _ _ _ _; refine fret (rv0 rfl) ?_) | (show WL _ _ _ _ _ _ _; first | (refine wl_val rfl rfl (q_eqNilP uP rfl) ?_) | (refine wl_val rfl rfl (q_neqSame uP hj rfl rfl) ?_) | refine wl_val rfl rfl (q_pv rfl) ?_ | refine wl_val rfl rfl (q_nilPP rfl) ?_ | refine wl_val rfl rfl (q_fieldAddr rfl) ?_ | refine wl_val rfl rfl (q_loadA rfl Cs.A (by rfl)) ?_ | refine wl_val rfl rfl (q_load1 rfl Cs.A (by rfl)) ?_ | refine wl_val rfl rfl (q_loadS rfl Cs.A (by rfl) (by rfl)) ?_ | (refine wl_do rfl rfl ?_; first | refine st_store rfl rfl rfl rfl rfl rfl Bx.A (by first | rfl | (rw [Nat.ble_eq]; simp; omega)) (fun w1 g1 z1 f1 => ?_)) | refine wl_val rfl rfl (q_eql1 rfl rfl (by omega)) ?_ | refine wl_val rfl rfl (q_eql0 rfl rfl (by omega)) ?_ | refine wl_eql rfl rfl rfl rfl (fun tt => ?_) (fun tt => ?_) | refine wl_val rfl rfl (q_neq1 rfl rfl (by omega)) ?_ | refine wl_val rfl rfl (q_neq0 rfl rfl (by omega)) ?_ | refine wl_neq rfl rfl rfl rfl (fun tt => ?_) (fun tt => ?_) | refine wl_val rfl rfl (q_eqlB rfl rfl) ?_ | refine wl_val rfl rfl (q_neqB rfl rfl) ?_ | refine wl_val rfl rfl (q_conv rfl (IntWalk.i64_in _ (by omega))) ?_))
    exact fnorm (rv0 rfl) ⟨rfl, ⟨rfl, rfl, rfl, Nat.le_refl _, fun _ _ _ => rfl⟩, rfl, h1⟩

theorem bld_WriteByte (w : World) (base q : Nat) (l : List UInt8) (A : Option Addr) (c : Nat) (u : UInt8) (h : Bd w base q l A c) (hl : l.length + 1 ≤ 140737488355328) :
    Calls Try.prog 109 #[pp ⟨q, 0, none⟩ 0, .int .u8 (u.toNat : Int)] w fun e w' => ∃ A' c', e = .returned .nilIface ∧ Mb q A w w' ∧ Bd w' base q (l ++ [u]) A' c' ∧ A'.isSome = true ∧ (A'.map (·.block) = A.map (·.block) ∨ ∃ k, A'.map (·.block) = some k ∧ w.heap.size ≤ k) := by
  have hlt := h.lt
  have hle := h.le
  have hb : q < w.heap.size := Nat.lt_of_lt_of_le h.lt h.le
  refine calls_W Try.func109 rfl Try.ntmps109 rfl ?_
  repeat' (first | refine wl_nil ?_ | refine Th_normal ?_ | refine W_seq ?_ | refine W_region ?_ | refine W_condT rfl ?_ | refine W_condF rfl ?_ | refine W_block ?_ | refine W_ret ?_ | refine W_exit ?_ | refine W_skip ?_ | refine Th_ret ?_ | refine Th_exit ?_ | refine Bl_normal ?_ | refine Bl_ret ?_ | refine Bl_exit rfl ?_ | refine Bl_pass rfl ?_ | refine W_condB rfl (fun tt => ?_) (fun tt => ?_) | (show fnPost _ _ _ _ _ _ _; refine fret (rv1 rfl rfl) ?_) | (show WL _ _ _ _ _ _ _; first | (refine wl_do (op := .call { callee := .value (.func 118), args := _, argTypes := _ }) rfl rfl ?_; refine st_call Try.func118 rfl rfl rfl (bld_copyCheck _ base q l A c (h.gr Gr.A)) ?_; rintro e w1 ⟨rfl, g1, z1, f1⟩; refine ⟨_, rfl, ?_⟩; have o1 : Ow _ base _ 1 encC A c l := h.ow.mvr g1 hlt; have m1 := Mb.st (Mb.refl q A w) g1; have y1 := z1) | (refine wl_do rfl rfl ?_; refine st_appendH (base := base) (enc := encC) (sz := 1) (ys := [u]) (Ow.gr Gr.A o1) rfl rfl rfl rfl (Bx.cs Bx.A) rfl (fun _ => rfl) (fun _ => rfl) rfl (by simpa using hl) (by omega) (fun hO9 B1 d1 w3 g3 z3 k3 n3 hO1 => ?_); have m3 := Mb.ap (Mb.gr m1 (show Gr _ _ from Gr.A)) g3; have h3 := Bx.aq hO9 hlt g3 Bx.A) | refine wl_val rfl rfl (q_pv rfl) ?_ | refine wl_val rfl rfl (q_nilPP rfl) ?_ | refine wl_val rfl rfl (q_fieldAddr rfl) ?_ | refine wl_val rfl rfl (q_loadA rfl Cs.A (by rfl)) ?_ | refine wl_val rfl rfl (q_load1 rfl Cs.A (by rfl)) ?_ | refine wl_val rfl rfl (q_loadS rfl Cs.A (by rfl) (by rfl)) ?_ | (refine wl_do rfl rfl ?_; first | refine st_store rfl rfl rfl rfl rfl rfl Bx.A (by first | rfl | (rw [Nat.ble_eq]; simp; omega)) (fun w1 g1 z1 f1 => ?_) | refine st_buildSlice rfl rfl rfl (fun b w1 e1 g1 z1 f1 => ?_))))
  refine ⟨B1, d1, rfl, m3.st g1, ⟨.inr f1, hO1.mvr g1 hlt, hlt, by omega⟩, n3 (by omega), ?_⟩
  rcases k3 with k3 | k3
  · exact .inl k3
  · exact .inr ⟨_, k3, by omega⟩

theorem bld_Len (w : World) (base q : Nat) (l : List UInt8) (A : Option Addr) (c : Nat) (h : Bd w base q l A c) :
    Calls Try.prog 110 #[pp ⟨q, 0, none⟩ 0] w fun e w' => e = .returned (.int .i64 (l.length : Int)) ∧ w = w' := by
  obtain ⟨p, hB⟩ := h.bx
  refine calls_W Try.func110 rfl Try.ntmps110 rfl ?_
  repeat' (first | refine wl_nil ?_ | refine Th_normal ?_ | refine W_seq ?_ | refine W_region ?_ | refine W_condT rfl ?_ | refine W_condF rfl ?_ | refine W_block ?_ | refine W_ret ?_ | refine W_exit ?_ | refine W_skip ?_ | refine Th_ret ?_ | refine Th_exit ?_ | refine Bl_normal ?_ | refine Bl_ret ?_ | refine Bl_exit rfl ?_ | refine Bl_pass rfl ?_ | refine W_condB rfl (fun tt => ?_) (fun tt => ?_) | (show fnPost _ _ _ _ _ _ _; refine fret (rv1 rfl rfl) ?_) | (show WL _ _ _ _ _ _ _; first | refine wl_val rfl rfl (q_pv rfl) ?_ | refine wl_val rfl rfl (q_nilPP rfl) ?_ | refine wl_val rfl rfl (q_len rfl) ?_ | refine wl_val rfl rfl (q_lenS rfl) ?_ | refine wl_val rfl rfl (q_fieldAddr rfl) ?_ | refine wl_val rfl rfl (q_loadA rfl Cs.A (by rfl)) ?_ | refine wl_val rfl rfl (q_load1 rfl Cs.A (by rfl)) ?_ | refine wl_val rfl rfl (q_loadS rfl Cs.A (by rfl) (by rfl)) ?_))
  exact ⟨rfl, rfl⟩

theorem bld_String (w : World) (base q : Nat) (l : List UInt8) (A : Option Addr) (c : Nat) (h : Bd w base q l A c) (h0 : l ≠ []) :
    Calls Try.prog 111 #[pp ⟨q, 0, none⟩ 0] w fun e w' => e = .returned (str l) ∧ w.grownBy w' (A.map (·.block)) := by
  obtain ⟨p, hB⟩ := h.bx
  have hpos : 0 < l.length := List.length_pos_iff.2 h0
  rcases h.ow.row.2 with ⟨_, hz⟩ | ⟨g0, cap, cur, he, hbg, hg, hnc, hcm, hcs, htk⟩
  · omega
  · simp only [Value.slice.injEq] at he
    obtain ⟨rfl, -, rfl⟩ := he
    have hc0 : c ≠ 0 := by omega
    have uB := Try.underlying130
    have cB : Try.prog.cellsOf 5 = 1 := by kernel_rfl
    have hflat : ∀ (j : Nat) (x : UInt8), l[j]? = some x → (l.flatMap encC)[j]? = some (.int .u8 (x.toNat : Int)) := fun j x hx => by
      have := flat_get (enc := encC) (sz := 1) (fun _ => rfl) l j 0 x hx (by omega)
      simpa [encC] using this
    have hcl : ∀ (w2 : World), w2.heap[g0]? = some (.cells cur 5 (0, 0)) → ∀ j x, l[j]? = some x → w2.cell? ((⟨g0, 0, none⟩ : Addr).add j) = some (.int .u8 (x.toNat : Int)) := by
      intro w2 hg2 j x hx
      have h1 := hflat j x hx
      rw [← htk, List.getElem?_take] at h1
      split at h1
      · rw [add_mid, Lib.cell_of_heap hg2, ← h1]
        simp
      · cases h1
    have hlc : l.length ≤ cur.size := by omega
    have h63 : l.length ≤ 9223372036854775807 := by unfold maxLen at hcm; omega
    have hgg : ∀ (w2 : World), Gr w w2 → w2.heap[g0]? = some (.cells cur 5 (0, 0)) := fun w2 g2 => (g2.block g0 (Array.getElem?_eq_some_iff.1 hg).1).trans hg
    refine calls_W Try.func111 rfl Try.ntmps111 rfl ?_
    repeat' (first | refine wl_nil ?_ | refine Th_normal ?_ | refine W_seq ?_ | refine W_region ?_ | refine W_condT rfl ?_ | refine W_condF rfl ?_ | refine W_block ?_ | refine W_ret ?_ | refine W_exit ?_ | refine W_skip ?_ | refine Th_ret ?_ | refine Th_exit ?_ | refine Bl_normal ?_ | refine Bl_ret ?_ | refine Bl_exit rfl ?_ | refine Bl_pass rfl ?_ | refine W_condB rfl (fun tt => ?_) (fun tt => ?_) | (show fnPost _ _ _ _ _ _ _; refine fret (rv1 rfl rfl) ?_) | (show WL _ _ _ _ _ _ _; first | (refine wl_val rfl rfl (q_sliceData rfl hc0) ?_) | (refine wl_do rfl rfl ?_; refine st_unsafeString uB cB rfl rfl h0 (hgg _ Gr.A) hlc h63 (hcl _ (hgg _ Gr.A)) (fun w3 g3 z3 => ?_)) | refine wl_val rfl rfl (q_pv rfl) ?_ | refine wl_val rfl rfl (q_nilPP rfl) ?_ | refine wl_val rfl rfl (q_len rfl) ?_ | refine wl_val rfl rfl (q_lenS rfl) ?_ | refine wl_val rfl rfl (q_fieldAddr rfl) ?_ | refine wl_val rfl rfl (q_loadA rfl Cs.A (by rfl)) ?_ | refine wl_val rfl rfl (q_load1 rfl Cs.A (by rfl)) ?_ | refine wl_val rfl rfl (q_loadS rfl Cs.A (by rfl) (by rfl)) ?_) | ((refine wt_begin (id := 1) 10 mixed (by kernel_rfl) (fun w1 g1 z1 => ?_)) <;> (repeat' (first | refine ws_val rfl rfl (by first | exact q_pv rfl | exact q_nilPP rfl | exact q_fieldAddr rfl | exact q_loadA rfl Cs.A (by rfl) | exact q_load1 rfl Cs.A (by rfl) | exact q_loadS rfl Cs.A (by rfl) (by rfl) | exact q_add rfl rfl (by omega) | exact q_sub rfl rfl (by omega) | exact q_len rfl | exact q_lenS rfl | exact q_indexAddr _ rfl rfl rfl (by omega) (by first | assumption | rfl) | exact q_indexAddrI rfl rfl (by omega) (by omega) (by first | assumption | rfl) | exact q_build rfl rfl | exact q_lss1 rfl rfl (by omega) | exact q_lss0 rfl rfl (by omega) | exact q_leq1 rfl rfl (by omega) | exact q_leq0 rfl rfl (by omega) | exact q_gtr1 rfl rfl (by omega) | exact q_gtr0 rfl rfl (by omega) | exact q_geq1 rfl rfl (by omega) | exact q_geq0 rfl rfl (by omega) | exact q_eql1 rfl rfl (by omega) | exact q_eql0 rfl rfl (by omega) | exact q_neq1 rfl rfl (by omega) | exact q_neq0 rfl rfl (by omega) | exact q_mul rfl rfl (by omega) | exact q_quo rfl rfl (by omega) (by omega) (by omega) | exact q_rem rfl rfl (by omega) (by omega) | exact q_xor rfl rfl (by omega) (by omega) | exact q_min rfl rfl | exact q_max rfl rfl | exact q_conv rfl (IntWalk.i64_in _ (by omega)) | exact q_neg rfl (by omega) | exact q_eqlB rfl rfl | exact q_neqB rfl rfl | exact q_addw rfl rfl | exact q_subw rfl rfl | exact q_mulw rfl rfl | exact q_cmp rfl rfl rfl | exact q_sliceData rfl hc0) ?_)) <;> refine ws_nil ?_) | refine wi_begin (id := 1) (.q 0 (.q 1 (.q 2 (.q 3 (.q 4 (.q 5 (.q 6 (.q 7 (.q 8 (.q 9 (.d 10 (.q 11 .e)))))))))))) mixed (fun w1 g1 z1 => ?_) | (show WI _ _ _ _ _ _ _ _ _ _; first | refine wq rfl (by kernel_rfl) rfl rfl (fun _ _ => (by first | exact q_pv rfl | exact q_nilPP rfl | exact q_fieldAddr rfl | exact q_loadA rfl Cs.A (by rfl) | exact q_load1 rfl Cs.A (by rfl) | exact q_loadS rfl Cs.A (by rfl) (by rfl) | exact q_add rfl rfl (by omega) | exact q_sub rfl rfl (by omega) | exact q_len rfl | exact q_lenS rfl | exact q_indexAddr _ rfl rfl rfl (by omega) (by first | assumption | rfl) | exact q_indexAddrI rfl rfl (by omega) (by omega) (by first | assumption | rfl) | exact q_build rfl rfl | exact q_lss1 rfl rfl (by omega) | exact q_lss0 rfl rfl (by omega) | exact q_leq1 rfl rfl (by omega) | exact q_leq0 rfl rfl (by omega) | exact q_gtr1 rfl rfl (by omega) | exact q_gtr0 rfl rfl (by omega) | exact q_geq1 rfl rfl (by omega) | exact q_geq0 rfl rfl (by omega) | exact q_eql1 rfl rfl (by omega) | exact q_eql0 rfl rfl (by omega) | exact q_neq1 rfl rfl (by omega) | exact q_neq0 rfl rfl (by omega) | exact q_mul rfl rfl (by omega) | exact q_quo rfl rfl (by omega) (by omega) (by omega) | exact q_rem rfl rfl (by omega) (by omega) | exact q_xor rfl rfl (by omega) (by omega) | exact q_min rfl rfl | exact q_max rfl rfl | exact q_conv rfl (IntWalk.i64_in _ (by omega)) | exact q_neg rfl (by omega) | exact q_eqlB rfl rfl | exact q_neqB rfl rfl | exact q_addw rfl rfl | exact q_subw rfl rfl | exact q_mulw rfl rfl | exact q_cmp rfl rfl rfl | exact q_sliceData rfl hc0)) Gr.A ?_ | ((refine wd rfl (by kernel_rfl) rfl rfl ?_) <;> first | (refine st_unsafeString uB cB rfl rfl h0 (hgg _ Gr.A) hlc h63 (hcl _ (hgg _ Gr.A)) (fun w3 g3 z3 => ?_)) | refine st_box rfl rfl (fun b w1 e1 g1 z1 f1 => ?_) | refine st_alloc (fun b w1 e1 g1 z1 f1 => ?_) | refine st_store rfl rfl rfl rfl rfl rfl Bx.A (by first | rfl | (rw [Nat.ble_eq]; simp; omega)) (fun w1 g1 z1 f1 => ?_) | refine st_buildSlice rfl rfl rfl (fun b w1 e1 g1 z1 f1 => ?_) | refine st_makeSlice rfl rfl rfl (by omega) (fun b w1 e1 g1 z1 f1 => ?_)) | refine wo (by kernel_rfl) ?_) | refine wa Gr.A ?_)
    exact ⟨rfl, ⟨g3.os.trans g1.os, g3.tape.trans g1.tape, g3.output.trans g1.output, Nat.le_trans g1.size g3.size, fun k hk hne => (g3.block k (Nat.lt_of_lt_of_le hk g1.size) hne).trans (g1.block k hk)⟩⟩


end Go.Proofs.Ytdenlafdbfbkoaa
