/- The engine's rules: loops by several ghosts, function values, own slices, slices by numbers. No program in sight. -/
import Derived.Test.YtdenlafdbfbkoaaOpq
import Derived.StillTail
namespace Go.Proofs.Ytdenlafdbfbkoaa
open Go.RowKit
set_option linter.unusedVariables false
set_option linter.unusedSimpArgs false

section
variable {P : Program} {n : Nat} {s : St} {w : World} {d : Option Tmp} {ty : TypeId} {pos : String} {af : Array Edge} {g : Option (Nat × Bool)} {Q : Exit → St → World → Prop}

theorem W_loop2 {α β : Type} (S : α → β → St) (F : α → β → World → Prop) (m : α → β → Nat) {c : Code} (a0 : α) (b0 : β) (hs : Subs s (S a0 b0)) (h0 : F a0 b0 w)
    (round : ∀ a b w', F a b w' → W P n c (Th (fun s' w'' => ∃ a' b', m a' b' < m a b ∧ F a' b' w'' ∧ Subs s' (S a' b')) Q) (S a b) w') : W P n (.loop c) Q s w :=
  W_loop (fun p : α × β => S p.1 p.2) (fun p => F p.1 p.2) (fun p => m p.1 p.2) (a0, b0) hs h0 fun p w' h => W_mono (round p.1 p.2 w' h) fun e s' w'' hq => by
    cases e with
    | normal => obtain ⟨a', b', h1⟩ := hq; exact ⟨(a', b'), h1⟩
    | ret => exact hq
    | exit i => exact hq
    | goto l => exact hq
    | panic c => exact hq
    | outgrown => exact hq

theorem W_loop3 {α β γ : Type} (S : α → β → γ → St) (F : α → β → γ → World → Prop) (m : α → β → γ → Nat) {c : Code} (a0 : α) (b0 : β) (c0 : γ) (hs : Subs s (S a0 b0 c0)) (h0 : F a0 b0 c0 w)
    (round : ∀ a b x w', F a b x w' → W P n c (Th (fun s' w'' => ∃ a' b' x', m a' b' x' < m a b x ∧ F a' b' x' w'' ∧ Subs s' (S a' b' x')) Q) (S a b x) w') : W P n (.loop c) Q s w :=
  W_loop (fun p : α × β × γ => S p.1 p.2.1 p.2.2) (fun p => F p.1 p.2.1 p.2.2) (fun p => m p.1 p.2.1 p.2.2) (a0, b0, c0) hs h0 fun p w' h => W_mono (round p.1 p.2.1 p.2.2 w' h) fun e s' w'' hq => by
    cases e with
    | normal => obtain ⟨a', b', x', h1⟩ := hq; exact ⟨(a', b', x'), h1⟩
    | ret => exact hq
    | exit i => exact hq
    | goto l => exact hq
    | panic c => exact hq
    | outgrown => exact hq

theorem W_loop4 {α β γ δ : Type} (S : α → β → γ → δ → St) (F : α → β → γ → δ → World → Prop) (m : α → β → γ → δ → Nat) {c : Code} (a0 : α) (b0 : β) (c0 : γ) (d0 : δ) (hs : Subs s (S a0 b0 c0 d0)) (h0 : F a0 b0 c0 d0 w)
    (round : ∀ a b x y w', F a b x y w' → W P n c (Th (fun s' w'' => ∃ a' b' x' y', m a' b' x' y' < m a b x y ∧ F a' b' x' y' w'' ∧ Subs s' (S a' b' x' y')) Q) (S a b x y) w') : W P n (.loop c) Q s w :=
  W_loop (fun p : α × β × γ × δ => S p.1 p.2.1 p.2.2.1 p.2.2.2) (fun p => F p.1 p.2.1 p.2.2.1 p.2.2.2) (fun p => m p.1 p.2.1 p.2.2.1 p.2.2.2) (a0, b0, c0, d0) hs h0 fun p w' h => W_mono (round p.1 p.2.1 p.2.2.1 p.2.2.2 w' h) fun e s' w'' hq => by
    cases e with
    | normal => obtain ⟨a', b', x', y', h1⟩ := hq; exact ⟨(a', b', x', y'), h1⟩
    | ret => exact hq
    | exit i => exact hq
    | goto l => exact hq
    | panic c => exact hq
    | outgrown => exact hq

/-! ### A region that draws its order: first what only computes or reads, then one after the other -/
def WS (P : Program) (n : Nat) (ops : Array Oper) (w : World) (K : Act → Prop) (l : List Oper) (s : St) : Prop := ∀ a, Rep n s a → wpStill P ops w K l a

theorem ws_nil {ops : Array Oper} {l : List Oper} (h : WL P n ops Q l s w) : WS P n ops w (fun a' => wpList P ops (Qa n Q) l a' w) [] s := fun a ha => h a ha

theorem ws_val {ops : Array Oper} {K : Act → Prop} {op : Op} {rest : List Oper} {v : Value} (hg : gd ops s g = some true) (hd : dOk n d = true) (hq : QV P n s w ⟨d, op, ty, pos, af, g⟩ v) (h : WS P n ops w K rest (pt d v s)) :
    WS P n ops w K (⟨d, op, ty, pos, af, g⟩ :: rest) s := fun a ha => by
  unfold wpStill
  rw [if_pos (ha.wanted (o := ⟨d, op, ty, pos, af, g⟩) hg)]
  unfold Oper.still
  rw [hq a ha, Oper.stillUpon_value]
  exact h _ (ha.put hd v)

theorem ws_skip {ops : Array Oper} {K : Act → Prop} {op : Op} {rest : List Oper} (hg : gd ops s g = some false) (hd : dOk n d = true) (h : WS P n ops w K rest (pt d undef s)) :
    WS P n ops w K (⟨d, op, ty, pos, af, g⟩ :: rest) s := fun a ha => by
  unfold wpStill
  rw [if_neg (by rw [ha.wanted (o := ⟨d, op, ty, pos, af, g⟩) hg]; simp)]
  exact h _ (ha.put hd undef)

theorem wt_begin {id : Nat} {l : List Oper} (k : Nat) (hm : P.follows .mixedOrders = true) (hB : Region.lexTailB .any l.toArray k = true)
    (h : ∀ w1, Gr w w1 → w.heap.size = w1.heap.size → WS P n l.toArray w1 (fun a' => wpList P l.toArray (Qa n Q) (l.drop k) a' w1) (l.take k) s) : W P n (.region id l.toArray true) Q s w := fun a ha =>
  wp_region_still_tail k hm hB (h w.drew (Gr.drew w) rfl a ha)

/-! ### Function values -/
theorem st_callF {f : FuncId} {fn : Func} {x : Operand} {l : List Operand} {fi cap : Array Value} {vs us : List Value} {ts : Array TypeId} {R : Ending → World → Prop} {K : Value → World → Prop}
    (hx : ev s x = some (.func (.func f) fi cap)) (hf : P.funcs[f]? = some fn) (hnn : (fn.name == "runtime.NumGoroutine") = false) (hb : fn.body.isNone = false) (hl : evs s l = some vs) (hus : fi.toList ++ vs ++ cap.toList = us) (hc : Calls P f us.toArray w R)
    (h : ∀ e w', R e w' → ∃ v, e = .returned v ∧ K v w') :
    ST P n s w ⟨d, .call { callee := .value x, args := l.toArray, argTypes := ts }, ty, pos, af, g⟩ K := fun a ha KA QA hk => by
  have hr : (execOp a.eval ⟨d, .call { callee := .value x, args := l.toArray, argTypes := ts }, ty, pos, af, g⟩).run P w = .ok (.enter f us.toArray) w := by
    have he := ha.evs hl
    have hxe := ha.ev hx
    have h1 : ¬ fn.name = "runtime.NumGoroutine" := by simpa using hnn
    have h2 : ¬ fn.body = Option.none := fun e => by simp [e] at hb
    have hcf : (callFunc f us.toArray).run P w = .ok (.enter f us.toArray) w := by
      unfold callFunc program
      simp only [Sem.run_bind]
      show (Result.ok P w).andThen _ = _
      simp [hf, h1, h2]
    have hu : fi ++ vs.toArray ++ cap = us.toArray := by
      rw [← hus]
      apply Array.ext'
      simp
    simp only [execOp, resolve, hxe, Deferred.ofValue, Sem.run_bind, Sem.run_pure, Result.andThen_ok, invoke, List.map_toArray, he, hu, hcf]
  unfold Oper.wp
  rw [hr]
  refine hc.mono fun e w' hR => ?_
  obtain ⟨v, rfl, hK⟩ := h e w' hR
  exact hk _ _ hK

theorem q_makeFunc {f : Fn} {l1 l2 : List Operand} {v1 v2 : List Value} (h1 : evs s l1 = some v1) (h2 : evs s l2 = some v2) :
    QV P n s w ⟨d, .makeFunc f l1.toArray l2.toArray, ty, pos, af, g⟩ (.func f v1.toArray v2.toArray) := fun a ha => by
  have e1 := ha.evs h1
  have e2 := ha.evs h2
  simp only [execOp, List.map_toArray, e1, e2, Instr.makeFunc]
  rfl

/-! ### Own slices -/
theorem Gr.ap {α : Type} {a w w' : World} {base : Nat} {e : TypeId} {sz : Nat} {enc : α → List Value} {A : Option Addr} {c : Nat} {xs : List α} (h : Gr a w) (hO : Ow w base e sz enc A c xs) (hb : a.heap.size ≤ base) (k : w.grownBy w' (A.map (·.block))) : Gr a w' :=
  Below.grown h k h.size (fun b hb' => by
    obtain ⟨ad, rfl, rfl⟩ := Option.map_eq_some_iff.1 hb'
    exact Nat.le_trans hb (hO.block ad rfl).1)

theorem Ow.low {α : Type} {w : World} {base lo : Nat} {e : TypeId} {sz : Nat} {enc : α → List Value} {A : Option Addr} {c : Nat} {xs : List α} (h : Ow w base e sz enc A c xs) (hlo : lo ≤ base) : Ow w lo e sz enc A c xs :=
  ⟨⟨h.row.1, h.row.2.imp id fun ⟨q, cap, cur, h1, h2, h3⟩ => ⟨q, cap, cur, h1, Nat.le_trans hlo h2, h3⟩⟩⟩

theorem st_buildSliceO {α : Type} {t e : TypeId} {len : Nat} {l : List (Nat × Operand)} {vs : List (Nat × Value)} {cs : List Value} {sz bytes : Nat} {z : Value} {K : Value → World → Prop} [hk : KSl P t e] [hr : KRow P e sz bytes z] {enc : α → List Value} (ys : List α)
    (hl : evp s l = some vs) (hle : Nat.ble (len * sz) 16777216 = true) (hf : fillL (fun i => some (i * sz, sz)) ((List.range (len * sz)).map (fun i => z.cells.toList.getD (i % sz) undef)) vs = some cs)
    (hy : ys.flatMap enc = cs) (hn : ys.length = len) (hm : cs.length = len * sz) {base : Nat} (hbase : base ≤ w.heap.size)
    (h : ∀ b w', w.heap.size = b → Gr w w' → w.heap.size < w'.heap.size → Bx w' b cs → Ow w' base e sz enc (some ⟨b, 0, none⟩) len ys → K (.slice (some ⟨b, 0, none⟩) len len) w') :
    ST P n s w ⟨d, .buildSlice t len l.toArray, ty, pos, af, g⟩ K := fun a ha KA QA hK => by
  obtain ⟨i, hi, hz0, hz1, hz2⟩ := hr.h
  have he := ha.evp hl
  have hff := fill_of_fillL hf
  have hle' : ¬ (16777216 < len * sz) := by have := Nat.le_of_ble_eq_true hle; omega
  have hzs := hr.zsz
  have hpos := hr.pos
  have hcells : (if len * sz = 0 then (#[] : Array Value) else z.cells) = z.cells ∨ len * sz = 0 := by
    by_cases h0 : len * sz = 0
    · exact .inr h0
    · exact .inl (by rw [if_neg h0])
  have hinit : (((Array.range (len * sz)).map fun i => (if len * sz = 0 then (#[] : Array Value) else z.cells)[i % (if len * sz = 0 then (#[] : Array Value) else z.cells).size]!)) = (((List.range (len * sz)).map (fun i => z.cells.toList.getD (i % sz) undef))).toArray := by
    rcases hcells with h0 | h0
    · rw [h0, hzs]
      apply Array.ext'
      simp only [Array.toList_map, Array.toList_range]
      apply List.map_congr_left
      intro j hj
      have hlt : j % sz < z.cells.size := by rw [hzs]; exact Nat.mod_lt _ hpos
      rw [getElem!_pos z.cells (j % sz) hlt]
      simp [List.getD, hlt]
    · simp [h0]
  have hrun : (execOp a.eval ⟨d, .buildSlice t len l.toArray, ty, pos, af, g⟩).run P w = .ok (.value (.slice (some ⟨w.heap.size, 0, none⟩) len len)) (w.alloc (.cells cs.toArray e)) := by
    simp only [execOp, List.map_toArray, he]
    by_cases h0 : len * sz = 0
    · simp only [h0, if_true] at hinit
      simp [Instr.buildSlice, run_underlying hk.h, sizeOf, typeInfo, hi, hz1, h0]
      simp only [h0, List.range_zero, List.map_nil] at hff
      rw [show Array.map (fun x => (default : Value)) (Array.range 0) = [].toArray by simp, hff]
      simp [newRow]
    · simp only [h0, if_false] at hinit
      simp [Instr.buildSlice, run_underlying hk.h, sizeOf, typeInfo, hi, hz1, h0, hle', zeroValue, hz0]
      rw [hinit, hff]
      simp [newRow]
  have hsz1 : len ≤ len * sz := Nat.le_mul_of_pos_right _ hpos
  have hlen : len ≤ maxLen := by have := Nat.le_of_ble_eq_true hle; simp only [maxLen]; omega
  unfold Oper.wp
  rw [hrun]
  refine hK _ _ (h _ _ rfl (Gr.alloc w _) (by simp) ⟨e, heap_alloc_new w _⟩ ⟨?_⟩)
  subst hn
  refine ⟨by rw [hy, hm], .inr ⟨w.heap.size, ys.length, cs.toArray, rfl, hbase, heap_alloc_new w _, Nat.le_refl _, hlen, by simp [hm], ?_⟩⟩
  rw [hy]
  simp only
  exact List.take_of_length_le (by omega)

/-- What a slice holds, as cells that may be written. -/
def Wr (w : World) (B : Option Addr) (n sz b : Nat) (cs : List Value) : Prop := n = 0 ∨ (B = some ⟨b, 0, none⟩ ∧ ∃ ds, Bx w b ds ∧ n * sz ≤ ds.length ∧ ds.take (n * sz) = cs)

theorem Wr.gr {w w' : World} {B : Option Addr} {n sz b : Nat} {cs : List Value} (g : Gr w w') (h : Wr w B n sz b cs) : Wr w' B n sz b cs := by
  rcases h with h | ⟨h1, ds, h2, h3⟩
  · exact .inl h
  · exact .inr ⟨h1, ds, h2.gr g, h3⟩

theorem Wr.mv {w w' : World} {B : Option Addr} {n sz b r : Nat} {cs : List Value} (g : w.grownBy w' (some r)) (hne : b ≠ r) (h : Wr w B n sz b cs) : Wr w' B n sz b cs := by
  rcases h with h | ⟨h1, ds, h2, h3⟩
  · exact .inl h
  · exact .inr ⟨h1, ds, h2.mv g hne, h3⟩

theorem Ow.wr {α : Type} {w : World} {base : Nat} {e : TypeId} {sz : Nat} {enc : α → List Value} {A : Option Addr} {c : Nat} {xs : List α} (h : Ow w base e sz enc A c xs) (hb : base ≤ w.heap.size) : ∃ b, base ≤ b ∧ b ≤ w.heap.size ∧ Wr w A xs.length sz b (xs.flatMap enc) := by
  rcases h.row.2 with ⟨_, h0⟩ | ⟨q, cap, cur, he, hb, hg, hle, hm, hsz, htk⟩
  · exact ⟨w.heap.size, hb, Nat.le_refl _, .inl h0⟩
  · refine ⟨q, hb, Nat.le_of_lt (Array.getElem?_eq_some_iff.1 hg).1, .inr ⟨by cases he; rfl, cur.toList, ⟨e, by simpa using hg⟩, ?_, htk⟩⟩
    simp only [Array.length_toList, hsz]
    exact Nat.mul_le_mul_right _ hle

theorem Bx.wr {w : World} {b n sz : Nat} {cs : List Value} (h : Bx w b cs) (hn : cs.length = n * sz) : Wr w (some ⟨b, 0, none⟩) n sz b cs :=
  .inr ⟨rfl, cs, h, by omega, by rw [← hn]; exact List.take_length⟩

theorem Wr.sl {α : Type} {w : World} {B : Option Addr} {sz b : Nat} {enc : α → List Value} {xs : List α} (h : Wr w B xs.length sz b (xs.flatMap enc)) (hs : ∀ x, (enc x).length = sz) : Sl w B sz enc xs := by
  rcases h with h | ⟨rfl, ds, h1, h2, h3⟩
  · have : xs = [] := List.length_eq_zero_iff.1 h
    subst this
    exact Sl.nil
  · refine ⟨fun _ => rfl, fun i x hx j u hu => ?_⟩
    have hj : j < sz := by have := (List.getElem?_eq_some_iff.1 hu).1; rw [hs] at this; exact this
    have hf := flat_get hs xs i j x hx hj
    rw [← h3, List.getElem?_take] at hf
    have hi : i < xs.length := (List.getElem?_eq_some_iff.1 hx).1
    have hlt : i * sz + j < xs.length * sz := by
      have : (i + 1) * sz ≤ xs.length * sz := Nat.mul_le_mul_right _ hi
      rw [Nat.add_mul] at this
      omega
    rw [if_pos hlt] at hf
    have := h1.cs (i * sz + j) u (by rw [hf]; exact hu)
    simpa [ea, add_add] using this

/-- A slice that reads as a list, in blocks between two bounds. -/
structure SB {α : Type} (w : World) (lo hi : Nat) (A : Option Addr) (sz : Nat) (enc : α → List Value) (xs : List α) : Prop where
  sl : Sl w A sz enc xs
  bd : ∀ a, 0 < xs.length → A = some a → lo ≤ a.block ∧ a.block < hi

theorem SB.gr {α : Type} {w w' : World} {lo hi : Nat} {A : Option Addr} {sz : Nat} {enc : α → List Value} {xs : List α} (g : Gr w w') (h : SB w lo hi A sz enc xs) : SB w' lo hi A sz enc xs := ⟨h.sl.gr g, h.bd⟩
theorem SB.mv {α : Type} {w w' : World} {lo hi r : Nat} {A : Option Addr} {sz : Nat} {enc : α → List Value} {xs : List α} (g : w.grownBy w' (some r)) (hne : r < lo ∨ hi ≤ r) (h : SB w lo hi A sz enc xs) : SB w' lo hi A sz enc xs :=
  ⟨h.sl.mv g (fun a hn ha => by have := h.bd a hn ha; omega), h.bd⟩
theorem Sl.sb {α : Type} {w : World} {A : Option Addr} {sz : Nat} {enc : α → List Value} {xs : List α} (h : Sl w A sz enc xs) (he : ∀ x, 0 < (enc x).length) : SB w 0 w.heap.size A sz enc xs :=
  ⟨h, fun a hn ha => ⟨Nat.zero_le _, h.lt he a hn ha⟩⟩
theorem Ow.sb {α : Type} {w : World} {base : Nat} {e : TypeId} {sz : Nat} {enc : α → List Value} {A : Option Addr} {c : Nat} {xs : List α} (h : Ow w base e sz enc A c xs) (hs : ∀ x, (enc x).length = sz) : SB w base w.heap.size A sz enc xs :=
  ⟨h.sl hs, fun a hn ha => h.block a ha⟩
theorem Bx.sb {α : Type} {w : World} {b sz : Nat} {enc : α → List Value} {xs : List α} (h : Bx w b (xs.flatMap enc)) (hs : ∀ x, (enc x).length = sz) : SB w b (b + 1) (some ⟨b, 0, none⟩) sz enc xs :=
  ⟨h.sl hs rfl, fun a hn ha => by cases ha; simp⟩

/-! ### Slices by numbers -/
theorem q_sliceZ {x lo hi : Operand} {t e : TypeId} {sz : Nat} [hk : KSl P t e] [hz : KSz P e sz] {A : Option Addr} {m c : Nat} {i j : Int} {k1 k2 : IntKind}
    (hx : ev s x = some (.slice A m c)) (hl : ev s lo = some (.int k1 i)) (hh : ev s hi = some (.int k2 j)) (h0 : 0 ≤ i) (h1 : i ≤ j) (h2 : j ≤ (c : Int)) :
    QV P n s w ⟨d, .slice t x (some lo) (some hi) none, ty, pos, af, g⟩ (.slice (subA A c i.toNat sz) (j - i).toNat (c - i.toNat)) := by
  obtain ⟨a, rfl⟩ := Int.eq_ofNat_of_zero_le h0
  obtain ⟨b, rfl⟩ := Int.eq_ofNat_of_zero_le (show 0 ≤ j by omega)
  have := q_slice (P := P) (n := n) (s := s) (w := w) (d := d) (ty := ty) (pos := pos) (af := af) (g := g) (t := t) hx hl hh (show a ≤ b by omega) (show b ≤ c by omega)
  rw [show ((b : Int) - (a : Int)).toNat = b - a by omega]
  exact this

end
end Go.Proofs.Ytdenlafdbfbkoaa
