/- The engine's rules, more: literals of structs and slices, make, append, slices of slices, strings. No program in sight. -/
import Derived.Test.YtdenlafdbfbkoaaOpm
import Derived.Laws.StructEq
namespace Go.Proofs.Ytdenlafdbfbkoaa
open Go.RowKit
set_option linter.unusedVariables false
set_option linter.unusedSimpArgs false

/-! ### Literals of structs and slices -/
def fillL (place : Nat → Option (Nat × Nat)) (cs : List Value) : List (Nat × Value) → Option (List Value)
  | [] => some cs
  | (i, v) :: rest => match place i with
    | none => none
    | some (off, size) =>
      if Nat.beq v.cells.toList.length size && Nat.ble (off + v.cells.toList.length) cs.length then fillL place (splice cs off v.cells.toList) rest else none

theorem fold_set : ∀ (vs : List Value) (off j : Nat) (cs : List Value), off + j + vs.length ≤ cs.length →
    (vs.zipIdx j).foldl (fun (a : Array Value) (p : Value × Nat) => a.setIfInBounds (off + p.2) p.1) cs.toArray = (cs.take (off + j) ++ vs ++ cs.drop (off + j + vs.length)).toArray
  | [], off, j, cs, _ => by simp
  | v :: vs, off, j, cs, h => by
    simp only [List.length_cons] at h
    simp only [List.zipIdx_cons, List.foldl_cons, List.setIfInBounds_toArray]
    rw [fold_set vs off (j + 1) (cs.set (off + j) v) (by simp; omega)]
    congr 1
    apply List.ext_getElem?
    intro k
    simp only [List.length_cons, List.getElem?_append, List.length_take, List.length_set, List.length_append, List.getElem?_take, List.getElem?_drop, List.getElem?_set, List.getElem?_cons]
    have e1 : min (off + (j + 1)) cs.length = off + j + 1 := by omega
    have e2 : min (off + j) cs.length = off + j := by omega
    simp only [e1, e2]
    by_cases hk : k < off + j
    · simp [hk, show k < off + j + 1 by omega, show k < off + j + 1 + vs.length by omega, show k < off + j + (vs.length + 1) by omega, show ¬ off + j = k by omega, show k < off + (j + 1) by omega]
    · by_cases hk2 : k = off + j
      · subst hk2
        simp [show off + j < off + j + 1 + vs.length by omega, show off + j < off + j + (vs.length + 1) by omega, show off + j < off + (j + 1) by omega, show off + j < cs.length by omega]
      · have hg : off + j < k := by omega
        by_cases hk3 : k < off + j + 1 + vs.length
        · simp [hk, hk3, show ¬ k < off + j + 1 by omega, show k < off + j + (vs.length + 1) by omega, show ¬ k - (off + j) = 0 by omega, show k - (off + j + 1) = k - (off + j) - 1 by omega]
        · simp [hk3, show ¬ k < off + j + (vs.length + 1) by omega, show ¬ k < off + j + 1 by omega, show ¬ off + j = off + (j + 1) + vs.length + (k - (off + j + 1 + vs.length)) by omega, show off + (j + 1) + vs.length + (k - (off + j + 1 + vs.length)) = off + j + (vs.length + 1) + (k - (off + j + (vs.length + 1))) by omega]
          intro hh
          omega

theorem fill_of_fillL {place : Nat → Option (Nat × Nat)} : ∀ {parts : List (Nat × Value)} {cs r : List Value}, fillL place cs parts = some r → Instr.fill place cs.toArray parts = some r.toArray
  | [], cs, r, h => by simp only [fillL] at h; cases h; rfl
  | (i, v) :: rest, cs, r, h => by
    simp only [fillL] at h
    unfold Instr.fill
    cases hp : place i with
    | none => simp [hp] at h
    | some q =>
      obtain ⟨off, size⟩ := q
      simp only [hp] at h
      split at h
      · rename_i hc
        simp only [Bool.and_eq_true, Nat.ble_eq] at hc
        have h1 : v.cells.toList.length = size := Nat.eq_of_beq_eq_true hc.1
        have h2 : off + v.cells.toList.length ≤ cs.length := hc.2
        have hf := fold_set v.cells.toList off 0 cs (by simpa using h2)
        have h3 := fill_of_fillL h
        simp only [Nat.add_zero] at hf
        have e1 : v.cells.size = size := by simpa using h1
        have e2 : ¬ (v.cells.size ≠ size ∨ off + v.cells.size > cs.toArray.size) := by
          simp only [Array.length_toList] at h2
          simp [e1]
          omega
        have e3 : (decide (v.cells.size ≠ size) || decide (off + v.cells.size > cs.toArray.size)) = false := by
          simpa using e2
        simp only [e3, Bool.false_eq_true, if_false]
        rw [← h3]
        congr 1
        rw [← Array.foldl_toList, Array.toList_zipIdx, hf]
        rfl
      · cases h

/-- A struct type's zero and the places of its fields. -/
class KBld (P : Program) (t : TypeId) (zs : outParam (List Value)) (pl : outParam (List (Nat × Nat))) : Prop where
  h : ∃ fs z, P.underlying t = some (.struct fs) ∧ (∀ w, (zeroValue t).run P w = .ok z w) ∧ z.cells = zs.toArray ∧
    ∀ w, (fs.mapM fun f => do pure (f.offset, ← sizeOf f.type) : Sem (Array (Nat × Nat))).run P w = .ok pl.toArray w

section
variable {P : Program} {n : Nat} {s : St} {w : World} {d : Option Tmp} {ty : TypeId} {pos : String} {af : Array Edge} {g : Option (Nat × Bool)}

def evp (s : St) : List (Nat × Operand) → Option (List (Nat × Value))
  | [] => some []
  | (i, x) :: r => match ev s x, evp s r with
    | some v, some vs => some ((i, v) :: vs)
    | _, _ => none

theorem Rep.evp {a : Act} (ha : Rep n s a) : ∀ {l : List (Nat × Operand)} {vs : List (Nat × Value)}, evp s l = some vs → (l.map fun (i, x) => (i, a.eval x)) = vs
  | [], vs, h => by simpa [Go.Proofs.Ytdenlafdbfbkoaa.evp] using h
  | (i, x) :: r, vs, h => by
    simp only [Go.Proofs.Ytdenlafdbfbkoaa.evp] at h
    split at h
    · rename_i v us h1 h2
      cases h
      simp only [List.map_cons, ha.ev h1]
      rw [ha.evp h2]
    · cases h

theorem q_build {t : TypeId} {l : List (Nat × Operand)} {vs : List (Nat × Value)} {zs cs : List Value} {pl : List (Nat × Nat)} [hk : KBld P t zs pl] (hl : evp s l = some vs) (hf : fillL (pl[·]?) zs vs = some cs) :
    QV P n s w ⟨d, .build t l.toArray, ty, pos, af, g⟩ (.agg cs.toArray) := fun a ha => by
  obtain ⟨fs, z, h1, h2, h3, h4⟩ := hk.h
  have he := ha.evp hl
  have hff := fill_of_fillL hf
  have hff' : Instr.fill (fun i => pl.toArray[i]?) zs.toArray vs = some cs.toArray := by simpa using hff
  simp only [execOp, List.map_toArray, he]
  simp only [Instr.build, Sem.run_bind, h2, Result.andThen_ok, run_underlying h1, h4, h3]
  rw [hff']
  rfl

theorem st_buildSlice {t e : TypeId} {len : Nat} {l : List (Nat × Operand)} {vs : List (Nat × Value)} {cs : List Value} {sz bytes : Nat} {z : Value} {K : Value → World → Prop} [hk : KSl P t e] [hr : KRow P e sz bytes z]
    (hl : evp s l = some vs) (hle : Nat.ble (len * sz) 16777216 = true) (hf : fillL (fun i => some (i * sz, sz)) ((List.range (len * sz)).map (fun i => z.cells.toList.getD (i % sz) undef)) vs = some cs)
    (h : ∀ b w', w.heap.size = b → Gr w w' → w.heap.size < w'.heap.size → Bx w' b cs → K (.slice (some ⟨b, 0, none⟩) len len) w') :
    ST P n s w ⟨d, .buildSlice t len l.toArray, ty, pos, af, g⟩ K := fun a ha KA QA hK => by
  obtain ⟨i, hi, hz0, hz1, hz2⟩ := hr.h
  have he := ha.evp hl
  have hff := fill_of_fillL hf
  have hle' : ¬ (16777216 < len * sz) := by have := Nat.le_of_ble_eq_true hle; omega
  have hzs := hr.zsz
  have hpos := hr.pos
  have hcells : (if len * sz = 0 then (#[] : Array Value) else z.cells) = z.cells ∨ len * sz = 0 := by
    by_cases h0 : len * sz = 0
    · exact .inr h0
    · exact .inl (by rw [if_neg h0])
  have hinit : (((Array.range (len * sz)).map fun i => (if len * sz = 0 then (#[] : Array Value) else z.cells)[i % (if len * sz = 0 then (#[] : Array Value) else z.cells).size]!)) = (((List.range (len * sz)).map (fun i => z.cells.toList.getD (i % sz) undef))).toArray := by
    rcases hcells with h0 | h0
    · rw [h0, hzs]
      apply Array.ext'
      simp only [Array.toList_map, Array.toList_range]
      apply List.map_congr_left
      intro j hj
      have hlt : j % sz < z.cells.size := by rw [hzs]; exact Nat.mod_lt _ hpos
      rw [getElem!_pos z.cells (j % sz) hlt]
      simp [List.getD, hlt]
    · simp [h0]
  have hrun : (execOp a.eval ⟨d, .buildSlice t len l.toArray, ty, pos, af, g⟩).run P w = .ok (.value (.slice (some ⟨w.heap.size, 0, none⟩) len len)) (w.alloc (.cells cs.toArray e)) := by
    simp only [execOp, List.map_toArray, he]
    by_cases h0 : len * sz = 0
    · simp only [h0, if_true] at hinit
      simp [Instr.buildSlice, run_underlying hk.h, sizeOf, typeInfo, hi, hz1, h0]
      simp only [h0, List.range_zero, List.map_nil] at hff
      rw [show Array.map (fun x => (default : Value)) (Array.range 0) = [].toArray by simp, hff]
      simp [newRow]
    · simp only [h0, if_false] at hinit
      simp [Instr.buildSlice, run_underlying hk.h, sizeOf, typeInfo, hi, hz1, h0, hle', zeroValue, hz0]
      rw [hinit, hff]
      simp [newRow]
  unfold Oper.wp
  rw [hrun]
  exact hK _ _ (h _ _ rfl (Gr.alloc w _) (by simp) ⟨e, heap_alloc_new w _⟩)

end
end Go.Proofs.Ytdenlafdbfbkoaa
