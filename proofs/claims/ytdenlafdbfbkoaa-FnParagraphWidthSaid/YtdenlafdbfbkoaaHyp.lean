/- Contracts of the functions on values between letters and places of division. -/
import Derived.Test.YtdenlafdbfbkoaaPat
import Derived.Test.YtdenlafdbfbkoaaPlnK
namespace Go.Proofs.Ytdenlafdbfbkoaa
open Go.RowKit
set_option linter.unusedVariables false
set_option linter.unusedSimpArgs false

section
variable {P : Program} {n : Nat} {s : St} {w : World} {d : Option Tmp} {ty : TypeId} {pos : String} {af : Array Edge} {g : Option (Nat × Bool)}

theorem q_sliceToH {x hi : Operand} {t : TypeId} [hk : KStr P t] {l : List UInt8} {k2 : IntKind} {j : Int} (hx : ev s x = some (str l)) (hh : ev s hi = some (.int k2 j)) (h0 : 0 ≤ j) (h2 : j ≤ (l.length : Int)) :
    QV P n s w ⟨d, .slice t x none (some hi) none, ty, pos, af, g⟩ (str (l.take j.toNat)) := fun a ha => by
  have e : (⟨l.toArray⟩ : ByteArray).size = l.length := by simp [ByteArray.size]
  have e2 := ByteArray.extract_mk l 0 j.toNat
  simp only [execOp, Option.map_some, Option.map_none, ha.ev hx, ha.ev hh, str, Sem.run_bind]
  simp [Instr.sliceAt, Instr.slice, run_underlying hk.h, Instr.sliceBounds, Instr.sliceBound, asIntOf, e, h0, h2] at e2 ⊢
  rw [e2]

theorem q_slice3 {x lo hi mx : Operand} {t e : TypeId} {sz : Nat} [hk : KSl P t e] [hz : KSz P e sz] {A : Option Addr} {m c : Nat} {i j k : Int} {k1 k2 k3 : IntKind}
    (hx : ev s x = some (.slice A m c)) (hl : ev s lo = some (.int k1 i)) (hh : ev s hi = some (.int k2 j)) (hm : ev s mx = some (.int k3 k)) (h0 : 0 ≤ i) (h1 : i ≤ j) (h2 : j ≤ k) (h3 : k ≤ (c : Int)) :
    QV P n s w ⟨d, .slice t x (some lo) (some hi) (some mx), ty, pos, af, g⟩ (.slice (subA A k.toNat i.toNat sz) (j.toNat - i.toNat) (k.toNat - i.toNat)) := fun a ha => by
  obtain ⟨l, rfl⟩ := Int.eq_ofNat_of_zero_le h0
  obtain ⟨h, rfl⟩ := Int.eq_ofNat_of_zero_le (show 0 ≤ j by omega)
  obtain ⟨q, rfl⟩ := Int.eq_ofNat_of_zero_le (show 0 ≤ k by omega)
  simp only [execOp, Option.map_some, Option.map_none, ha.ev hx, ha.ev hl, ha.ev hh, ha.ev hm, Sem.run_bind]
  simp [Instr.sliceAt, Instr.slice, run_underlying hk.h, Instr.sliceBounds, Instr.sliceBound, asIntOf, hz.sz, subA, show h ≤ q by omega, show l ≤ h by omega, show q ≤ c by omega, show (l : Int) ≤ (h : Int) by omega, show (h : Int) ≤ (q : Int) by omega, show (q : Int) ≤ (c : Int) by omega]

theorem q_lenTn {x : Operand} {t : TypeId} [hk : KStr P t] {l : List UInt8} (m : Nat) (hx : ev s x = some (str l)) (h : l.length = m) :
    QV P n s w ⟨d, .call { callee := .builtin .len, args := #[x], argTypes := #[t] }, ty, pos, af, g⟩ (.int .i64 (m : Int)) := by
  subst h
  exact q_lenT hx

theorem st_makeSliceZ {x y : Operand} {t e : TypeId} {sz bytes : Nat} {z : Value} [hk : KSl P t e] [hr : KRow P e sz bytes z] {k1 k2 : IntKind} {i j : Int} (m : Nat) {K : Value → World → Prop}
    (hx : ev s x = some (.int k1 i)) (hy : ev s y = some (.int k2 j)) (hi : i = (m : Int)) (hj : j = (m : Int)) (hb1 : Nat.ble 1 bytes = true) (hb : bytes * m ≤ 281474976710656)
    (h : ∀ b w', w.heap.size = b → Gr w w' → w.heap.size < w'.heap.size → Bx w' b (List.replicate m z.cells.toList).flatten → K (.slice (some ⟨b, 0, none⟩) m m) w') :
    ST P n s w ⟨d, .makeSlice t x y, ty, pos, af, g⟩ K := by
  subst hi; subst hj
  exact st_makeSlice hx hy hb1 hb h
end

/-- Numbers that a slice holds in a block that may be written. -/
def Wo (w : World) (B : Option Addr) (b : Nat) (xs : List Int) : Prop :=
  xs = [] ∨ ∃ o ds, B = some ⟨b, o, none⟩ ∧ Bx w b ds ∧ o + xs.length ≤ ds.length ∧ (ds.drop o).take xs.length = xs.flatMap encI

theorem Wo.gr {w w' : World} {B : Option Addr} {b : Nat} {xs : List Int} (g : Gr w w') (h : Wo w B b xs) : Wo w' B b xs := by
  rcases h with h | ⟨o, ds, h1, h2, h3⟩
  · exact .inl h
  · exact .inr ⟨o, ds, h1, h2.gr g, h3⟩

theorem Wo.mv {w w' : World} {B : Option Addr} {b r : Nat} {xs : List Int} (g : w.grownBy w' (some r)) (hne : b ≠ r) (h : Wo w B b xs) : Wo w' B b xs := by
  rcases h with h | ⟨o, ds, h1, h2, h3⟩
  · exact .inl h
  · exact .inr ⟨o, ds, h1, h2.mv g hne, h3⟩

theorem encI_len (xs : List Int) : (xs.flatMap encI).length = xs.length := by
  rw [flat_len (sz := 1) (fun _ => rfl)]; omega

theorem encI_get (xs : List Int) (i : Nat) : (xs.flatMap encI)[i]? = (xs[i]?).map (Value.int .i64) := by
  induction xs generalizing i with
  | nil => simp
  | cons x xs ih =>
    cases i with
    | zero => simp [encI]
    | succ i => simp only [List.flatMap_cons, encI, List.cons_append, List.nil_append, List.getElem?_cons_succ]; exact ih i

theorem encI_set (xs : List Int) (k : Nat) (v : Int) (h : k < xs.length) : (xs.set k v).flatMap encI = splice (xs.flatMap encI) k [.int .i64 v] := by
  have := splice_flat (enc := encI) (sz := 1) (f := 0) (vl := [.int .i64 v]) (x := xs[k]) (y := v) (fun _ => rfl) rfl (by simp) xs k (List.getElem?_eq_getElem h)
  rw [← this]
  simp

theorem encI_drop (xs : List Int) (k : Nat) : (xs.flatMap encI).drop k = (xs.drop k).flatMap encI := by
  apply List.ext_getElem?
  intro i
  rw [List.getElem?_drop, encI_get, encI_get, List.getElem?_drop]

theorem encI_take (xs : List Int) (k : Nat) : (xs.flatMap encI).take k = (xs.take k).flatMap encI := by
  apply List.ext_getElem?
  intro i
  rw [List.getElem?_take, encI_get, encI_get, List.getElem?_take]
  split <;> simp

theorem encI_zero (m : Nat) : (List.replicate m [Value.int .i64 0]).flatten = (List.replicate m (0 : Int)).flatMap encI := by
  induction m with
  | zero => rfl
  | succ m ih => simp only [List.replicate_succ, List.flatten_cons, List.flatMap_cons, ih]; rfl

theorem Wo.sb {w : World} {B : Option Addr} {b lo : Nat} {xs : List Int} (h : Wo w B b xs) (hlo : lo ≤ b) : SB w lo w.heap.size B 1 encI xs := by
  rcases h with rfl | ⟨o, ds, rfl, h2, h3, h4⟩
  · exact ⟨Sl.nil, fun a hn => by simp at hn⟩
  · refine ⟨⟨fun _ => rfl, fun i x hx => ?_⟩, fun a _ ha => ?_⟩
    · have hi := (List.getElem?_eq_some_iff.1 hx).1
      have := Cs.part (k := o + i) (l := [.int .i64 x]) h2.cs (by
        apply List.ext_getElem?
        intro j
        rw [List.getElem?_take, List.getElem?_drop]
        cases j with
        | zero =>
          have h5 := congrArg (·[i]?) h4
          simp only [List.getElem?_take, List.getElem?_drop, encI_get, hx, if_pos hi] at h5
          simpa using h5
        | succ j => simp)
      rw [show ea (some ⟨b, o, none⟩) (i * 1) = (⟨b, 0, none⟩ : Addr).add (o + i) by by_cases hi0 : i = 0 <;> by_cases ho0 : o = 0 <;> simp [ea, Addr.add, hi0, ho0]]
      exact this
    · cases ha
      exact ⟨hlo, h2.lt⟩

/-- A part of a block, as a slice. -/
theorem Wo.cut {w : World} {b : Nat} {pl : List Int} {i j k : Nat} (h : Bx w b (pl.flatMap encI)) (h1 : i ≤ j) (h2 : j ≤ k) (h3 : k ≤ pl.length) : Wo w (subA (some ⟨b, 0, none⟩) k i 1) b ((pl.take j).drop i) := by
  by_cases he : k = i
  · exact .inl (by rw [List.drop_eq_nil_of_le]; simp; omega)
  · refine .inr ⟨i, _, by simp [subA, he, Addr.add]; exact fun h => h.symm, h, ?_, ?_⟩
    · rw [encI_len]; simp; omega
    · rw [encI_drop, encI_take]
      congr 1
      simp only [List.length_drop, List.length_take, List.drop_take]
      congr 1
      omega

set_option maxHeartbeats 1000000
attribute [local irreducible] W WL QV ST RV Th Bl fnPost Cs Bx pp ea Calls
set_option maxRecDepth 100000

theorem lite_HasPrefix (l m : List UInt8) (b : Bool) (w : World) (hl : l.length ≤ 9223372036854775807) (hb : isAt l 0 m = b) :
    Calls Try.prog 113 #[str l, str m] w fun e w' => e = .returned (.bool b) ∧ w = w' := by
  subst hb
  refine calls_W Try.func113 rfl Try.ntmps113 rfl ?_
  by_cases h : m.length ≤ l.length
  · by_cases e : l.take m.length = m
    · rw [show isAt l 0 m = true by simp [isAt, e]]
      repeat' (first | refine wl_nil ?_ | refine Th_normal ?_ | refine W_seq ?_ | refine W_region ?_ | refine W_condT rfl ?_ | refine W_condF rfl ?_ | refine W_block ?_ | refine W_ret ?_ | refine W_exit ?_ | refine W_skip ?_ | refine Th_ret ?_ | refine Th_exit ?_ | refine Bl_normal ?_ | refine Bl_ret ?_ | refine Bl_exit rfl ?_ | refine Bl_pass rfl ?_ | refine W_condB rfl (fun tt => ?_) (fun tt => ?_) | (show fnPost _ _ _ _ _ _ _; refine fret (rv1 rfl rfl) ?_) | (show WL _ _ _ _ _ _ _; first | (refine wl_val rfl rfl (q_lenT rfl) ?_) | (refine wl_val rfl rfl (q_sliceToH rfl rfl (by omega) (by omega)) ?_) | (refine wl_val rfl rfl (q_eqlT1 rfl rfl (by simpa using e)) ?_) | refine wl_val rfl rfl (q_pv rfl) ?_ | refine wl_skip rfl rfl ?_ | refine wl_val rfl rfl (q_len rfl) ?_ | refine wl_val rfl rfl (q_lenS rfl) ?_ | refine wl_val rfl rfl (q_geq1 rfl rfl (by omega)) ?_ | refine wl_val rfl rfl (q_geq0 rfl rfl (by omega)) ?_ | refine wl_geq rfl rfl rfl rfl (fun tt => ?_) (fun tt => ?_) | refine wl_val rfl rfl (q_eql1 rfl rfl (by omega)) ?_ | refine wl_val rfl rfl (q_eql0 rfl rfl (by omega)) ?_ | refine wl_eql rfl rfl rfl rfl (fun tt => ?_) (fun tt => ?_) | refine wl_val rfl rfl (q_eqlB rfl rfl) ?_))
      exact ⟨rfl, rfl⟩
    · rw [show isAt l 0 m = false by simp [isAt, e]]
      repeat' (first | refine wl_nil ?_ | refine Th_normal ?_ | refine W_seq ?_ | refine W_region ?_ | refine W_condT rfl ?_ | refine W_condF rfl ?_ | refine W_block ?_ | refine W_ret ?_ | refine W_exit ?_ | refine W_skip ?_ | refine Th_ret ?_ | refine Th_exit ?_ | refine Bl_normal ?_ | refine Bl_ret ?_ | refine Bl_exit rfl ?_ | refine Bl_pass rfl ?_ | refine W_condB rfl (fun tt => ?_) (fun tt => ?_) | (show fnPost _ _ _ _ _ _ _; refine fret (rv1 rfl rfl) ?_) | (show WL _ _ _ _ _ _ _; first | (refine wl_val rfl rfl (q_lenT rfl) ?_) | (refine wl_val rfl rfl (q_sliceToH rfl rfl (by omega) (by omega)) ?_) | (refine wl_val rfl rfl (q_eqlT0 rfl rfl (by simpa using e)) ?_) | refine wl_val rfl rfl (q_pv rfl) ?_ | refine wl_skip rfl rfl ?_ | refine wl_val rfl rfl (q_len rfl) ?_ | refine wl_val rfl rfl (q_lenS rfl) ?_ | refine wl_val rfl rfl (q_geq1 rfl rfl (by omega)) ?_ | refine wl_val rfl rfl (q_geq0 rfl rfl (by omega)) ?_ | refine wl_geq rfl rfl rfl rfl (fun tt => ?_) (fun tt => ?_) | refine wl_val rfl rfl (q_eql1 rfl rfl (by omega)) ?_ | refine wl_val rfl rfl (q_eql0 rfl rfl (by omega)) ?_ | refine wl_eql rfl rfl rfl rfl (fun tt => ?_) (fun tt => ?_) | refine wl_val rfl rfl (q_eqlB rfl rfl) ?_))
      exact ⟨rfl, rfl⟩
  · rw [show isAt l 0 m = false by
      rw [isAt, decide_eq_false_iff_not]
      intro e
      have := congrArg List.length e
      simp at this
      omega]
    repeat' (first | refine wl_nil ?_ | refine Th_normal ?_ | refine W_seq ?_ | refine W_region ?_ | refine W_condT rfl ?_ | refine W_condF rfl ?_ | refine W_block ?_ | refine W_ret ?_ | refine W_exit ?_ | refine W_skip ?_ | refine Th_ret ?_ | refine Th_exit ?_ | refine Bl_normal ?_ | refine Bl_ret ?_ | refine Bl_exit rfl ?_ | refine Bl_pass rfl ?_ | refine W_condB rfl (fun tt => ?_) (fun tt => ?_) | (show fnPost _ _ _ _ _ _ _; refine fret (rv1 rfl rfl) ?_) | (show WL _ _ _ _ _ _ _; first | (refine wl_val rfl rfl (q_lenT rfl) ?_) | (refine wl_val rfl rfl (q_sliceToH rfl rfl (by omega) (by omega)) ?_) | refine wl_val rfl rfl (q_pv rfl) ?_ | refine wl_skip rfl rfl ?_ | refine wl_val rfl rfl (q_len rfl) ?_ | refine wl_val rfl rfl (q_lenS rfl) ?_ | refine wl_val rfl rfl (q_geq1 rfl rfl (by omega)) ?_ | refine wl_val rfl rfl (q_geq0 rfl rfl (by omega)) ?_ | refine wl_geq rfl rfl rfl rfl (fun tt => ?_) (fun tt => ?_) | refine wl_val rfl rfl (q_eql1 rfl rfl (by omega)) ?_ | refine wl_val rfl rfl (q_eql0 rfl rfl (by omega)) ?_ | refine wl_eql rfl rfl rfl rfl (fun tt => ?_) (fun tt => ?_) | refine wl_val rfl rfl (q_eqlB rfl rfl) ?_))
    exact ⟨rfl, rfl⟩

theorem lib_HasPrefix (l m : List UInt8) (b : Bool) (w : World) (hl : l.length ≤ 9223372036854775807) (hb : isAt l 0 m = b) :
    Calls Try.prog 96 #[str l, str m] w fun e w' => e = .returned (.bool b) ∧ w = w' := by
  refine calls_W Try.func96 rfl Try.ntmps96 rfl ?_
  repeat' (first | refine wl_nil ?_ | refine Th_normal ?_ | refine W_seq ?_ | refine W_region ?_ | refine W_condT rfl ?_ | refine W_condF rfl ?_ | refine W_block ?_ | refine W_ret ?_ | refine W_exit ?_ | refine W_skip ?_ | refine Th_ret ?_ | refine Th_exit ?_ | refine Bl_normal ?_ | refine Bl_ret ?_ | refine Bl_exit rfl ?_ | refine Bl_pass rfl ?_ | refine W_condB rfl (fun tt => ?_) (fun tt => ?_) | (show fnPost _ _ _ _ _ _ _; refine fret (rv1 rfl rfl) ?_) | (show WL _ _ _ _ _ _ _; first | (refine wl_do (op := .call { callee := .value (.func 113), args := _, argTypes := _ }) rfl rfl ?_; refine st_callP Try.func113 rfl rfl rfl (lite_HasPrefix _ _ _ _ hl hb) ?_) | refine wl_val rfl rfl (q_pv rfl) ?_))
  exact ⟨rfl, rfl⟩

theorem impl_validPatterns (A : Option Addr) (c : Nat) (ls : List (List UInt8)) (b : Bool) (w : World) (hS : Sl w A 1 encS ls) (hls : ls.length ≤ 1048576) (hk : ∀ s ∈ ls, s.length ≤ 1048576) (h : patsOk ls = b) :
    Calls Try.prog 56 #[.slice A ls.length c] w fun e w' => e = .returned (.bool b) ∧ Gr w w' := by
  by_cases hlong : 20 < ls.length
  · have := pats_long hlong
    rw [this] at h
    subst h
    refine calls_W Try.func56 rfl Try.ntmps56 rfl ?_
    repeat' (first | refine wl_nil ?_ | refine Th_normal ?_ | refine W_seq ?_ | refine W_region ?_ | refine W_condT rfl ?_ | refine W_condF rfl ?_ | refine W_block ?_ | refine W_ret ?_ | refine W_exit ?_ | refine W_skip ?_ | refine Th_ret ?_ | refine Th_exit ?_ | refine Bl_normal ?_ | refine Bl_ret ?_ | refine Bl_exit rfl ?_ | refine Bl_pass rfl ?_ | refine W_condB rfl (fun tt => ?_) (fun tt => ?_) | (show fnPost _ _ _ _ _ _ _; refine fret (rv1 rfl rfl) ?_) | (show WL _ _ _ _ _ _ _; first | refine wl_val rfl rfl (q_pv rfl) ?_ | refine wl_val rfl rfl (q_add rfl rfl (by omega)) ?_ | refine wl_val rfl rfl (q_len rfl) ?_ | refine wl_val rfl rfl (q_lenS rfl) ?_ | refine wl_val rfl rfl (q_indexAddr _ rfl rfl rfl (by omega) (by first | assumption | rfl)) ?_ | refine wl_val rfl rfl (q_indexAddrI rfl rfl (by omega) (by omega) (by first | assumption | rfl)) ?_ | refine wl_val rfl rfl (q_loadA rfl Cs.A (by rfl)) ?_ | refine wl_val rfl rfl (q_load1 rfl Cs.A (by rfl)) ?_ | refine wl_val rfl rfl (q_loadS rfl Cs.A (by rfl) (by rfl)) ?_ | refine wl_val rfl rfl (q_lss1 rfl rfl (by omega)) ?_ | refine wl_val rfl rfl (q_lss0 rfl rfl (by omega)) ?_ | refine wl_lss rfl rfl rfl rfl (fun tt => ?_) (fun tt => ?_) | refine wl_val rfl rfl (q_gtr1 rfl rfl (by omega)) ?_ | refine wl_val rfl rfl (q_gtr0 rfl rfl (by omega)) ?_ | refine wl_gtr rfl rfl rfl rfl (fun tt => ?_) (fun tt => ?_) | refine wl_val rfl rfl (q_addw rfl rfl) ?_))
    exact ⟨rfl, Gr.A⟩
  · refine calls_W Try.func56 rfl Try.ntmps56 rfl ?_
    repeat' (first | refine wl_nil ?_ | refine Th_normal ?_ | refine W_seq ?_ | refine W_region ?_ | refine W_condT rfl ?_ | refine W_condF rfl ?_ | refine W_block ?_ | refine W_ret ?_ | refine W_exit ?_ | refine W_skip ?_ | refine Th_ret ?_ | refine Th_exit ?_ | refine Bl_normal ?_ | refine Bl_ret ?_ | refine Bl_exit rfl ?_ | refine Bl_pass rfl ?_ | refine W_condB rfl (fun tt => ?_) (fun tt => ?_) | (show fnPost _ _ _ _ _ _ _; refine fret (rv1 rfl rfl) ?_) | (show WL _ _ _ _ _ _ _; first | refine wl_val rfl rfl (q_pv rfl) ?_ | refine wl_val rfl rfl (q_add rfl rfl (by omega)) ?_ | refine wl_val rfl rfl (q_len rfl) ?_ | refine wl_val rfl rfl (q_lenS rfl) ?_ | refine wl_val rfl rfl (q_indexAddr _ rfl rfl rfl (by omega) (by first | assumption | rfl)) ?_ | refine wl_val rfl rfl (q_indexAddrI rfl rfl (by omega) (by omega) (by first | assumption | rfl)) ?_ | refine wl_val rfl rfl (q_loadA rfl Cs.A (by rfl)) ?_ | refine wl_val rfl rfl (q_load1 rfl Cs.A (by rfl)) ?_ | refine wl_val rfl rfl (q_loadS rfl Cs.A (by rfl) (by rfl)) ?_ | refine wl_val rfl rfl (q_lss1 rfl rfl (by omega)) ?_ | refine wl_val rfl rfl (q_lss0 rfl rfl (by omega)) ?_ | refine wl_lss rfl rfl rfl rfl (fun tt => ?_) (fun tt => ?_) | refine wl_val rfl rfl (q_gtr1 rfl rfl (by omega)) ?_ | refine wl_val rfl rfl (q_gtr0 rfl rfl (by omega)) ?_ | refine wl_gtr rfl rfl rfl rfl (fun tt => ?_) (fun tt => ?_) | refine wl_val rfl rfl (q_addw rfl rfl) ?_))
    refine W_loop (fun i : Nat => [(13, .int .i64 (i : Int)), (11, .slice A ls.length c), (12, .int .i64 (ls.length : Int))]) (fun i w' => Gr w w' ∧ i ≤ ls.length ∧ ∀ u ∈ ls.take i, pOk u = true) (fun i => ls.length - i) 0 ⟨rfl, rfl, rfl, trivial⟩ ⟨Gr.A, by omega, by simp⟩ ?_
    rintro i w' ⟨g, hi, hv⟩
    by_cases hlt : i < ls.length
    · obtain ⟨u, hu⟩ : ∃ u, ls[i]? = some u := ⟨_, List.getElem?_eq_getElem hlt⟩
      have hs := hS.nn (by omega)
      have cx := (hS.el i u hu).gr g
      have hku := hk u (List.mem_of_getElem? hu)
      cases hp : pOk u
      · have := pats_bad hu hp
        rw [this] at h
        subst h
        repeat' (first | refine wl_nil ?_ | refine Th_normal ?_ | refine W_seq ?_ | refine W_region ?_ | refine W_condT rfl ?_ | refine W_condF rfl ?_ | refine W_block ?_ | refine W_ret ?_ | refine W_exit ?_ | refine W_skip ?_ | refine Th_ret ?_ | refine Th_exit ?_ | refine Bl_normal ?_ | refine Bl_ret ?_ | refine Bl_exit rfl ?_ | refine Bl_pass rfl ?_ | refine W_condB rfl (fun tt => ?_) (fun tt => ?_) | (show fnPost _ _ _ _ _ _ _; refine fret (rv1 rfl rfl) ?_) | (show WL _ _ _ _ _ _ _; first | (refine wl_do (op := .call { callee := .value (.func 88), args := _, argTypes := _ }) rfl rfl ?_; refine st_call Try.func88 rfl rfl rfl (impl_ParsePattern u _ hku) ?_; rintro e w1 ⟨B, d, rfl, g1, hO⟩; rw [hp]; refine ⟨_, rfl, ?_⟩; have z1 := g1.size) | refine wl_val rfl rfl (q_pv rfl) ?_ | refine wl_val rfl rfl (q_add rfl rfl (by omega)) ?_ | refine wl_val rfl rfl (q_len rfl) ?_ | refine wl_val rfl rfl (q_lenS rfl) ?_ | refine wl_val rfl rfl (q_indexAddr _ rfl rfl rfl (by omega) (by first | assumption | rfl)) ?_ | refine wl_val rfl rfl (q_indexAddrI rfl rfl (by omega) (by omega) (by first | assumption | rfl)) ?_ | refine wl_val rfl rfl (q_loadA rfl Cs.A (by rfl)) ?_ | refine wl_val rfl rfl (q_load1 rfl Cs.A (by rfl)) ?_ | refine wl_val rfl rfl (q_loadS rfl Cs.A (by rfl) (by rfl)) ?_ | refine wl_val rfl rfl (q_lss1 rfl rfl (by omega)) ?_ | refine wl_val rfl rfl (q_lss0 rfl rfl (by omega)) ?_ | refine wl_lss rfl rfl rfl rfl (fun tt => ?_) (fun tt => ?_) | refine wl_val rfl rfl (q_gtr1 rfl rfl (by omega)) ?_ | refine wl_val rfl rfl (q_gtr0 rfl rfl (by omega)) ?_ | refine wl_gtr rfl rfl rfl rfl (fun tt => ?_) (fun tt => ?_) | refine wl_val rfl rfl (q_addw rfl rfl) ?_))
        exact ⟨rfl, Gr.A⟩
      · repeat' (first | refine wl_nil ?_ | refine Th_normal ?_ | refine W_seq ?_ | refine W_region ?_ | refine W_condT rfl ?_ | refine W_condF rfl ?_ | refine W_block ?_ | refine W_ret ?_ | refine W_exit ?_ | refine W_skip ?_ | refine Th_ret ?_ | refine Th_exit ?_ | refine Bl_normal ?_ | refine Bl_ret ?_ | refine Bl_exit rfl ?_ | refine Bl_pass rfl ?_ | refine W_condB rfl (fun tt => ?_) (fun tt => ?_) | (show fnPost _ _ _ _ _ _ _; refine fret (rv1 rfl rfl) ?_) | (show WL _ _ _ _ _ _ _; first | (refine wl_do (op := .call { callee := .value (.func 88), args := _, argTypes := _ }) rfl rfl ?_; refine st_call Try.func88 rfl rfl rfl (impl_ParsePattern u _ hku) ?_; rintro e w1 ⟨B, d, rfl, g1, hO⟩; rw [hp]; refine ⟨_, rfl, ?_⟩; have z1 := g1.size) | refine wl_val rfl rfl (q_pv rfl) ?_ | refine wl_val rfl rfl (q_add rfl rfl (by omega)) ?_ | refine wl_val rfl rfl (q_len rfl) ?_ | refine wl_val rfl rfl (q_lenS rfl) ?_ | refine wl_val rfl rfl (q_indexAddr _ rfl rfl rfl (by omega) (by first | assumption | rfl)) ?_ | refine wl_val rfl rfl (q_indexAddrI rfl rfl (by omega) (by omega) (by first | assumption | rfl)) ?_ | refine wl_val rfl rfl (q_loadA rfl Cs.A (by rfl)) ?_ | refine wl_val rfl rfl (q_load1 rfl Cs.A (by rfl)) ?_ | refine wl_val rfl rfl (q_loadS rfl Cs.A (by rfl) (by rfl)) ?_ | refine wl_val rfl rfl (q_lss1 rfl rfl (by omega)) ?_ | refine wl_val rfl rfl (q_lss0 rfl rfl (by omega)) ?_ | refine wl_lss rfl rfl rfl rfl (fun tt => ?_) (fun tt => ?_) | refine wl_val rfl rfl (q_gtr1 rfl rfl (by omega)) ?_ | refine wl_val rfl rfl (q_gtr0 rfl rfl (by omega)) ?_ | refine wl_gtr rfl rfl rfl rfl (fun tt => ?_) (fun tt => ?_) | refine wl_val rfl rfl (q_addw rfl rfl) ?_))
        exact ⟨i + 1, by omega, ⟨Gr.A, by omega, fun v hv2 => by
          rw [List.take_add_one, hu] at hv2
          simp only [Option.toList_some, List.mem_append, List.mem_singleton] at hv2
          rcases hv2 with hv2 | rfl
          · exact hv v hv2
          · exact hp⟩, ⟨rfl, rfl, rfl, trivial⟩⟩
    · rw [List.take_of_length_le (by omega)] at hv
      have := patsOk_iff.2 ⟨hv, by omega⟩
      rw [this] at h
      subst h
      repeat' (first | refine wl_nil ?_ | refine Th_normal ?_ | refine W_seq ?_ | refine W_region ?_ | refine W_condT rfl ?_ | refine W_condF rfl ?_ | refine W_block ?_ | refine W_ret ?_ | refine W_exit ?_ | refine W_skip ?_ | refine Th_ret ?_ | refine Th_exit ?_ | refine Bl_normal ?_ | refine Bl_ret ?_ | refine Bl_exit rfl ?_ | refine Bl_pass rfl ?_ | refine W_condB rfl (fun tt => ?_) (fun tt => ?_) | (show fnPost _ _ _ _ _ _ _; refine fret (rv1 rfl rfl) ?_) | (show WL _ _ _ _ _ _ _; first | refine wl_val rfl rfl (q_pv rfl) ?_ | refine wl_val rfl rfl (q_add rfl rfl (by omega)) ?_ | refine wl_val rfl rfl (q_len rfl) ?_ | refine wl_val rfl rfl (q_lenS rfl) ?_ | refine wl_val rfl rfl (q_indexAddr _ rfl rfl rfl (by omega) (by first | assumption | rfl)) ?_ | refine wl_val rfl rfl (q_indexAddrI rfl rfl (by omega) (by omega) (by first | assumption | rfl)) ?_ | refine wl_val rfl rfl (q_loadA rfl Cs.A (by rfl)) ?_ | refine wl_val rfl rfl (q_load1 rfl Cs.A (by rfl)) ?_ | refine wl_val rfl rfl (q_loadS rfl Cs.A (by rfl) (by rfl)) ?_ | refine wl_val rfl rfl (q_lss1 rfl rfl (by omega)) ?_ | refine wl_val rfl rfl (q_lss0 rfl rfl (by omega)) ?_ | refine wl_lss rfl rfl rfl rfl (fun tt => ?_) (fun tt => ?_) | refine wl_val rfl rfl (q_gtr1 rfl rfl (by omega)) ?_ | refine wl_val rfl rfl (q_gtr0 rfl rfl (by omega)) ?_ | refine wl_gtr rfl rfl rfl rfl (fun tt => ?_) (fun tt => ?_) | refine wl_val rfl rfl (q_addw rfl rfl) ?_))
      exact ⟨rfl, Gr.A⟩

theorem spec_validPatterns (A : Option Addr) (c : Nat) (ls : List (List UInt8)) (b : Bool) (w : World) (hS : Sl w A 1 encS ls) (hls : ls.length ≤ 1048576) (hk : ∀ s ∈ ls, s.length ≤ 1048576) (h : patsOk ls = b) :
    Calls Try.prog 61 #[.slice A ls.length c] w fun e w' => e = .returned (.bool b) ∧ Gr w w' := by
  refine calls_W Try.func61 rfl Try.ntmps61 rfl ?_
  repeat' (first | refine wl_nil ?_ | refine Th_normal ?_ | refine W_seq ?_ | refine W_region ?_ | refine W_condT rfl ?_ | refine W_condF rfl ?_ | refine W_block ?_ | refine W_ret ?_ | refine W_exit ?_ | refine W_skip ?_ | refine Th_ret ?_ | refine Th_exit ?_ | refine Bl_normal ?_ | refine Bl_ret ?_ | refine Bl_exit rfl ?_ | refine Bl_pass rfl ?_ | refine W_condB rfl (fun tt => ?_) (fun tt => ?_) | (show fnPost _ _ _ _ _ _ _; refine fret (rv1 rfl rfl) ?_) | (show WL _ _ _ _ _ _ _; first | refine wl_val rfl rfl (q_pv rfl) ?_ | refine wl_val rfl rfl (q_add rfl rfl (by omega)) ?_ | refine wl_val rfl rfl (q_len rfl) ?_ | refine wl_val rfl rfl (q_lenS rfl) ?_ | refine wl_val rfl rfl (q_indexAddr _ rfl rfl rfl (by omega) (by first | assumption | rfl)) ?_ | refine wl_val rfl rfl (q_indexAddrI rfl rfl (by omega) (by omega) (by first | assumption | rfl)) ?_ | refine wl_val rfl rfl (q_loadA rfl Cs.A (by rfl)) ?_ | refine wl_val rfl rfl (q_load1 rfl Cs.A (by rfl)) ?_ | refine wl_val rfl rfl (q_loadS rfl Cs.A (by rfl) (by rfl)) ?_ | refine wl_val rfl rfl (q_lss1 rfl rfl (by omega)) ?_ | refine wl_val rfl rfl (q_lss0 rfl rfl (by omega)) ?_ | refine wl_lss rfl rfl rfl rfl (fun tt => ?_) (fun tt => ?_) | refine wl_val rfl rfl (q_leq1 rfl rfl (by omega)) ?_ | refine wl_val rfl rfl (q_leq0 rfl rfl (by omega)) ?_ | refine wl_leq rfl rfl rfl rfl (fun tt => ?_) (fun tt => ?_) | refine wl_val rfl rfl (q_addw rfl rfl) ?_))
  refine W_loop (fun i : Nat => [(3, .int .i64 (i : Int)), (0, .slice A ls.length c)]) (fun i w' => Gr w w' ∧ i ≤ ls.length ∧ ∀ u ∈ ls.take i, pOk u = true) (fun i => ls.length - i) 0 ⟨rfl, rfl, trivial⟩ ⟨Gr.A, by omega, by simp⟩ ?_
  rintro i w' ⟨g, hi, hv⟩
  by_cases hlt : i < ls.length
  · obtain ⟨u, hu⟩ : ∃ u, ls[i]? = some u := ⟨_, List.getElem?_eq_getElem hlt⟩
    have hs := hS.nn (by omega)
    have cx := (hS.el i u hu).gr g
    have hku := hk u (List.mem_of_getElem? hu)
    cases hp : pOk u
    · have := pats_bad hu hp
      rw [this] at h
      subst h
      repeat' (first | refine wl_nil ?_ | refine Th_normal ?_ | refine W_seq ?_ | refine W_region ?_ | refine W_condT rfl ?_ | refine W_condF rfl ?_ | refine W_block ?_ | refine W_ret ?_ | refine W_exit ?_ | refine W_skip ?_ | refine Th_ret ?_ | refine Th_exit ?_ | refine Bl_normal ?_ | refine Bl_ret ?_ | refine Bl_exit rfl ?_ | refine Bl_pass rfl ?_ | refine W_condB rfl (fun tt => ?_) (fun tt => ?_) | (show fnPost _ _ _ _ _ _ _; refine fret (rv1 rfl rfl) ?_) | (show WL _ _ _ _ _ _ _; first | (refine wl_do (op := .call { callee := .value (.func 92), args := _, argTypes := _ }) rfl rfl ?_; refine st_call Try.func92 rfl rfl rfl (spec_parsePattern u _ hku) ?_; rintro e w1 ⟨B, d, l2, vs2, rfl, g1, hO1, hh⟩; rw [hp]; refine ⟨_, rfl, ?_⟩; have z1 := g1.size) | refine wl_val rfl rfl (q_pv rfl) ?_ | refine wl_val rfl rfl (q_add rfl rfl (by omega)) ?_ | refine wl_val rfl rfl (q_len rfl) ?_ | refine wl_val rfl rfl (q_lenS rfl) ?_ | refine wl_val rfl rfl (q_indexAddr _ rfl rfl rfl (by omega) (by first | assumption | rfl)) ?_ | refine wl_val rfl rfl (q_indexAddrI rfl rfl (by omega) (by omega) (by first | assumption | rfl)) ?_ | refine wl_val rfl rfl (q_loadA rfl Cs.A (by rfl)) ?_ | refine wl_val rfl rfl (q_load1 rfl Cs.A (by rfl)) ?_ | refine wl_val rfl rfl (q_loadS rfl Cs.A (by rfl) (by rfl)) ?_ | refine wl_val rfl rfl (q_lss1 rfl rfl (by omega)) ?_ | refine wl_val rfl rfl (q_lss0 rfl rfl (by omega)) ?_ | refine wl_lss rfl rfl rfl rfl (fun tt => ?_) (fun tt => ?_) | refine wl_val rfl rfl (q_leq1 rfl rfl (by omega)) ?_ | refine wl_val rfl rfl (q_leq0 rfl rfl (by omega)) ?_ | refine wl_leq rfl rfl rfl rfl (fun tt => ?_) (fun tt => ?_) | refine wl_val rfl rfl (q_addw rfl rfl) ?_))
      exact ⟨rfl, Gr.A⟩
    · repeat' (first | refine wl_nil ?_ | refine Th_normal ?_ | refine W_seq ?_ | refine W_region ?_ | refine W_condT rfl ?_ | refine W_condF rfl ?_ | refine W_block ?_ | refine W_ret ?_ | refine W_exit ?_ | refine W_skip ?_ | refine Th_ret ?_ | refine Th_exit ?_ | refine Bl_normal ?_ | refine Bl_ret ?_ | refine Bl_exit rfl ?_ | refine Bl_pass rfl ?_ | refine W_condB rfl (fun tt => ?_) (fun tt => ?_) | (show fnPost _ _ _ _ _ _ _; refine fret (rv1 rfl rfl) ?_) | (show WL _ _ _ _ _ _ _; first | (refine wl_do (op := .call { callee := .value (.func 92), args := _, argTypes := _ }) rfl rfl ?_; refine st_call Try.func92 rfl rfl rfl (spec_parsePattern u _ hku) ?_; rintro e w1 ⟨B, d, l2, vs2, rfl, g1, hO1, hh⟩; rw [hp]; refine ⟨_, rfl, ?_⟩; have z1 := g1.size) | refine wl_val rfl rfl (q_pv rfl) ?_ | refine wl_val rfl rfl (q_add rfl rfl (by omega)) ?_ | refine wl_val rfl rfl (q_len rfl) ?_ | refine wl_val rfl rfl (q_lenS rfl) ?_ | refine wl_val rfl rfl (q_indexAddr _ rfl rfl rfl (by omega) (by first | assumption | rfl)) ?_ | refine wl_val rfl rfl (q_indexAddrI rfl rfl (by omega) (by omega) (by first | assumption | rfl)) ?_ | refine wl_val rfl rfl (q_loadA rfl Cs.A (by rfl)) ?_ | refine wl_val rfl rfl (q_load1 rfl Cs.A (by rfl)) ?_ | refine wl_val rfl rfl (q_loadS rfl Cs.A (by rfl) (by rfl)) ?_ | refine wl_val rfl rfl (q_lss1 rfl rfl (by omega)) ?_ | refine wl_val rfl rfl (q_lss0 rfl rfl (by omega)) ?_ | refine wl_lss rfl rfl rfl rfl (fun tt => ?_) (fun tt => ?_) | refine wl_val rfl rfl (q_leq1 rfl rfl (by omega)) ?_ | refine wl_val rfl rfl (q_leq0 rfl rfl (by omega)) ?_ | refine wl_leq rfl rfl rfl rfl (fun tt => ?_) (fun tt => ?_) | refine wl_val rfl rfl (q_addw rfl rfl) ?_))
      exact ⟨i + 1, by omega, ⟨Gr.A, by omega, fun v hv2 => by
        rw [List.take_add_one, hu] at hv2
        simp only [Option.toList_some, List.mem_append, List.mem_singleton] at hv2
        rcases hv2 with hv2 | rfl
        · exact hv v hv2
        · exact hp⟩, ⟨rfl, rfl, trivial⟩⟩
  · rw [List.take_of_length_le (by omega)] at hv
    by_cases hlong : ls.length ≤ 20
    · have := patsOk_iff.2 ⟨hv, hlong⟩
      rw [this] at h
      subst h
      repeat' (first | refine wl_nil ?_ | refine Th_normal ?_ | refine W_seq ?_ | refine W_region ?_ | refine W_condT rfl ?_ | refine W_condF rfl ?_ | refine W_block ?_ | refine W_ret ?_ | refine W_exit ?_ | refine W_skip ?_ | refine Th_ret ?_ | refine Th_exit ?_ | refine Bl_normal ?_ | refine Bl_ret ?_ | refine Bl_exit rfl ?_ | refine Bl_pass rfl ?_ | refine W_condB rfl (fun tt => ?_) (fun tt => ?_) | (show fnPost _ _ _ _ _ _ _; refine fret (rv1 rfl rfl) ?_) | (show WL _ _ _ _ _ _ _; first | refine wl_val rfl rfl (q_pv rfl) ?_ | refine wl_val rfl rfl (q_add rfl rfl (by omega)) ?_ | refine wl_val rfl rfl (q_len rfl) ?_ | refine wl_val rfl rfl (q_lenS rfl) ?_ | refine wl_val rfl rfl (q_indexAddr _ rfl rfl rfl (by omega) (by first | assumption | rfl)) ?_ | refine wl_val rfl rfl (q_indexAddrI rfl rfl (by omega) (by omega) (by first | assumption | rfl)) ?_ | refine wl_val rfl rfl (q_loadA rfl Cs.A (by rfl)) ?_ | refine wl_val rfl rfl (q_load1 rfl Cs.A (by rfl)) ?_ | refine wl_val rfl rfl (q_loadS rfl Cs.A (by rfl) (by rfl)) ?_ | refine wl_val rfl rfl (q_lss1 rfl rfl (by omega)) ?_ | refine wl_val rfl rfl (q_lss0 rfl rfl (by omega)) ?_ | refine wl_lss rfl rfl rfl rfl (fun tt => ?_) (fun tt => ?_) | refine wl_val rfl rfl (q_leq1 rfl rfl (by omega)) ?_ | refine wl_val rfl rfl (q_leq0 rfl rfl (by omega)) ?_ | refine wl_leq rfl rfl rfl rfl (fun tt => ?_) (fun tt => ?_) | refine wl_val rfl rfl (q_addw rfl rfl) ?_))
      exact ⟨rfl, Gr.A⟩
    · have := pats_long (ls := ls) (by omega)
      rw [this] at h
      subst h
      repeat' (first | refine wl_nil ?_ | refine Th_normal ?_ | refine W_seq ?_ | refine W_region ?_ | refine W_condT rfl ?_ | refine W_condF rfl ?_ | refine W_block ?_ | refine W_ret ?_ | refine W_exit ?_ | refine W_skip ?_ | refine Th_ret ?_ | refine Th_exit ?_ | refine Bl_normal ?_ | refine Bl_ret ?_ | refine Bl_exit rfl ?_ | refine Bl_pass rfl ?_ | refine W_condB rfl (fun tt => ?_) (fun tt => ?_) | (show fnPost _ _ _ _ _ _ _; refine fret (rv1 rfl rfl) ?_) | (show WL _ _ _ _ _ _ _; first | refine wl_val rfl rfl (q_pv rfl) ?_ | refine wl_val rfl rfl (q_add rfl rfl (by omega)) ?_ | refine wl_val rfl rfl (q_len rfl) ?_ | refine wl_val rfl rfl (q_lenS rfl) ?_ | refine wl_val rfl rfl (q_indexAddr _ rfl rfl rfl (by omega) (by first | assumption | rfl)) ?_ | refine wl_val rfl rfl (q_indexAddrI rfl rfl (by omega) (by omega) (by first | assumption | rfl)) ?_ | refine wl_val rfl rfl (q_loadA rfl Cs.A (by rfl)) ?_ | refine wl_val rfl rfl (q_load1 rfl Cs.A (by rfl)) ?_ | refine wl_val rfl rfl (q_loadS rfl Cs.A (by rfl) (by rfl)) ?_ | refine wl_val rfl rfl (q_lss1 rfl rfl (by omega)) ?_ | refine wl_val rfl rfl (q_lss0 rfl rfl (by omega)) ?_ | refine wl_lss rfl rfl rfl rfl (fun tt => ?_) (fun tt => ?_) | refine wl_val rfl rfl (q_leq1 rfl rfl (by omega)) ?_ | refine wl_val rfl rfl (q_leq0 rfl rfl (by omega)) ?_ | refine wl_leq rfl rfl rfl rfl (fun tt => ?_) (fun tt => ?_) | refine wl_val rfl rfl (q_addw rfl rfl) ?_))
      exact ⟨rfl, Gr.A⟩

theorem impl_HyphenValues (A : Option Addr) (c : Nat) (ls : List (List UInt8)) (l : List UInt8) (w : World) (hS : Sl w A 1 encS ls) (hls : ls.length ≤ 1048576) (hk : ∀ s ∈ ls, s.length ≤ 1048576) (hl : l.length ≤ 1048576) :
    Calls Try.prog 65 #[.slice A ls.length c, str l] w fun e w' => ∃ B d b, e = .returned (.slice B (hvR ls l).length d) ∧ Gr w w' ∧ w.heap.size ≤ b ∧ b ≤ w'.heap.size ∧ Wo w' B b (hvR ls l) := by
  cases hw : wordOk l
  · rw [hvR_bad1 hw]
    refine calls_W Try.func65 rfl Try.ntmps65 rfl ?_
    repeat' (first | refine wl_nil ?_ | refine Th_normal ?_ | refine W_seq ?_ | refine W_region ?_ | refine W_condT rfl ?_ | refine W_condF rfl ?_ | refine W_block ?_ | refine W_ret ?_ | refine W_exit ?_ | refine W_skip ?_ | refine Th_ret ?_ | refine Th_exit ?_ | refine Bl_normal ?_ | refine Bl_ret ?_ | refine Bl_exit rfl ?_ | refine Bl_pass rfl ?_ | refine W_condB rfl (fun tt => ?_) (fun tt => ?_) | (show fnPost _ _ _ _ _ _ _; refine fret (rv1 rfl rfl) ?_) | (show WL _ _ _ _ _ _ _; first | (refine wl_do (op := .call { callee := .value (.func 58), args := _, argTypes := _ }) rfl rfl ?_; refine st_callV Try.func58 rfl rfl rfl (impl_validWord l _ _ (by omega) hw) (fun w1 g1 z1 => ?_)) | refine wl_val rfl rfl (q_pv rfl) ?_ | refine wl_skip rfl rfl ?_ | refine wl_val rfl rfl (q_add rfl rfl (by omega)) ?_ | refine wl_val rfl rfl (q_len rfl) ?_ | refine wl_val rfl rfl (q_lenS rfl) ?_ | refine wl_val rfl rfl (q_indexAddr _ rfl rfl rfl (by omega) (by first | assumption | rfl)) ?_ | refine wl_val rfl rfl (q_indexAddrI rfl rfl (by omega) (by omega) (by first | assumption | rfl)) ?_ | refine wl_val rfl rfl (q_loadA rfl Cs.A (by rfl)) ?_ | refine wl_val rfl rfl (q_load1 rfl Cs.A (by rfl)) ?_ | refine wl_val rfl rfl (q_loadS rfl Cs.A (by rfl) (by rfl)) ?_ | (refine wl_do rfl rfl ?_; first | refine st_store rfl rfl rfl rfl rfl rfl Bx.A (by first | rfl | (rw [Nat.ble_eq]; simp; omega)) (fun w1 g1 z1 f1 => ?_) | refine st_makeSlice rfl rfl rfl (by omega) (fun b w1 e1 g1 z1 f1 => ?_)) | refine wl_val rfl rfl (q_lss1 rfl rfl (by omega)) ?_ | refine wl_val rfl rfl (q_lss0 rfl rfl (by omega)) ?_ | refine wl_lss rfl rfl rfl rfl (fun tt => ?_) (fun tt => ?_) | refine wl_val rfl rfl (q_max rfl rfl) ?_ | refine wl_val rfl rfl (q_addw rfl rfl) ?_))
    exact ⟨none, 0, _, rfl, Gr.A, Nat.le_refl _, by omega, .inl rfl⟩
  cases hp : patsOk ls
  · rw [hvR_bad2 hp]
    refine calls_W Try.func65 rfl Try.ntmps65 rfl ?_
    repeat' (first | refine wl_nil ?_ | refine Th_normal ?_ | refine W_seq ?_ | refine W_region ?_ | refine W_condT rfl ?_ | refine W_condF rfl ?_ | refine W_block ?_ | refine W_ret ?_ | refine W_exit ?_ | refine W_skip ?_ | refine Th_ret ?_ | refine Th_exit ?_ | refine Bl_normal ?_ | refine Bl_ret ?_ | refine Bl_exit rfl ?_ | refine Bl_pass rfl ?_ | refine W_condB rfl (fun tt => ?_) (fun tt => ?_) | (show fnPost _ _ _ _ _ _ _; refine fret (rv1 rfl rfl) ?_) | (show WL _ _ _ _ _ _ _; first | (refine wl_do (op := .call { callee := .value (.func 58), args := _, argTypes := _ }) rfl rfl ?_; refine st_callV Try.func58 rfl rfl rfl (impl_validWord l _ _ (by omega) hw) (fun w1 g1 z1 => ?_)) | (refine wl_do (op := .call { callee := .value (.func 56), args := _, argTypes := _ }) rfl rfl ?_; refine st_callV Try.func56 rfl rfl rfl (impl_validPatterns A c ls _ _ (hS.gr Gr.A) hls hk hp) (fun w1 g1 z1 => ?_)) | refine wl_val rfl rfl (q_pv rfl) ?_ | refine wl_skip rfl rfl ?_ | refine wl_val rfl rfl (q_add rfl rfl (by omega)) ?_ | refine wl_val rfl rfl (q_len rfl) ?_ | refine wl_val rfl rfl (q_lenS rfl) ?_ | refine wl_val rfl rfl (q_indexAddr _ rfl rfl rfl (by omega) (by first | assumption | rfl)) ?_ | refine wl_val rfl rfl (q_indexAddrI rfl rfl (by omega) (by omega) (by first | assumption | rfl)) ?_ | refine wl_val rfl rfl (q_loadA rfl Cs.A (by rfl)) ?_ | refine wl_val rfl rfl (q_load1 rfl Cs.A (by rfl)) ?_ | refine wl_val rfl rfl (q_loadS rfl Cs.A (by rfl) (by rfl)) ?_ | (refine wl_do rfl rfl ?_; first | refine st_store rfl rfl rfl rfl rfl rfl Bx.A (by first | rfl | (rw [Nat.ble_eq]; simp; omega)) (fun w1 g1 z1 f1 => ?_) | refine st_makeSlice rfl rfl rfl (by omega) (fun b w1 e1 g1 z1 f1 => ?_)) | refine wl_val rfl rfl (q_lss1 rfl rfl (by omega)) ?_ | refine wl_val rfl rfl (q_lss0 rfl rfl (by omega)) ?_ | refine wl_lss rfl rfl rfl rfl (fun tt => ?_) (fun tt => ?_) | refine wl_val rfl rfl (q_max rfl rfl) ?_ | refine wl_val rfl rfl (q_addw rfl rfl) ?_))
    exact ⟨none, 0, _, rfl, Gr.A, Nat.le_refl _, by omega, .inl rfl⟩
  rw [hvR_good hw hp]
  have hw2 := (word_iff.1 hw).2
  have hdl : (dotted l).length = l.length + 2 := dotted_len l
  refine calls_W Try.func65 rfl Try.ntmps65 rfl ?_
  repeat' (first | refine wl_nil ?_ | refine Th_normal ?_ | refine W_seq ?_ | refine W_region ?_ | refine W_condT rfl ?_ | refine W_condF rfl ?_ | refine W_block ?_ | refine W_ret ?_ | refine W_exit ?_ | refine W_skip ?_ | refine Th_ret ?_ | refine Th_exit ?_ | refine Bl_normal ?_ | refine Bl_ret ?_ | refine Bl_exit rfl ?_ | refine Bl_pass rfl ?_ | refine W_condB rfl (fun tt => ?_) (fun tt => ?_) | (show fnPost _ _ _ _ _ _ _; refine fret (rv1 rfl rfl) ?_) | (show WL _ _ _ _ _ _ _; first | (refine wl_do (op := .call { callee := .value (.func 58), args := _, argTypes := _ }) rfl rfl ?_; refine st_callV Try.func58 rfl rfl rfl (impl_validWord l _ _ (by omega) hw) (fun w1 g1 z1 => ?_)) | (refine wl_do (op := .call { callee := .value (.func 56), args := _, argTypes := _ }) rfl rfl ?_; refine st_callV Try.func56 rfl rfl rfl (impl_validPatterns A c ls _ _ (hS.gr Gr.A) hls hk hp) (fun w1 g1 z1 => ?_)) | (refine wl_val rfl rfl (q_catT rfl rfl (by simp; omega)) ?_) | (refine wl_val rfl rfl (q_lenTn (l.length + 2) rfl (dotted_len l)) ?_) | (refine wl_val rfl rfl (q_lenT rfl) ?_) | (refine wl_do rfl rfl ?_; refine st_makeSliceZ (l.length + 3) rfl rfl (by simp; omega) (by simp; omega) rfl (by omega) (fun q w1 e1 g1 z1 hB => ?_)) | refine wl_val rfl rfl (q_pv rfl) ?_ | refine wl_skip rfl rfl ?_ | refine wl_val rfl rfl (q_add rfl rfl (by omega)) ?_ | refine wl_val rfl rfl (q_len rfl) ?_ | refine wl_val rfl rfl (q_lenS rfl) ?_ | refine wl_val rfl rfl (q_indexAddr _ rfl rfl rfl (by omega) (by first | assumption | rfl)) ?_ | refine wl_val rfl rfl (q_indexAddrI rfl rfl (by omega) (by omega) (by first | assumption | rfl)) ?_ | refine wl_val rfl rfl (q_loadA rfl Cs.A (by rfl)) ?_ | refine wl_val rfl rfl (q_load1 rfl Cs.A (by rfl)) ?_ | refine wl_val rfl rfl (q_loadS rfl Cs.A (by rfl) (by rfl)) ?_ | (refine wl_do rfl rfl ?_; first | refine st_store rfl rfl rfl rfl rfl rfl Bx.A (by first | rfl | (rw [Nat.ble_eq]; simp; omega)) (fun w1 g1 z1 f1 => ?_) | refine st_makeSlice rfl rfl rfl (by omega) (fun b w1 e1 g1 z1 f1 => ?_)) | refine wl_val rfl rfl (q_lss1 rfl rfl (by omega)) ?_ | refine wl_val rfl rfl (q_lss0 rfl rfl (by omega)) ?_ | refine wl_lss rfl rfl rfl rfl (fun tt => ?_) (fun tt => ?_) | refine wl_val rfl rfl (q_max rfl rfl) ?_ | refine wl_val rfl rfl (q_addw rfl rfl) ?_))
  have hB0 : Bx w1 q ((List.replicate (l.length + 3) (0 : Int)).flatMap encI) := by rw [← encI_zero]; exact hB
  have hqw : w.heap.size ≤ q := by omega
  clear hB
  refine W_loop2 (fun (i : Nat) (pl : List Int) => [(32, .int .i64 (i : Int)), (30, .slice A ls.length c), (31, .int .i64 (ls.length : Int)), (6, .slice (some ⟨q, 0, none⟩) (l.length + 3) (l.length + 3)), (5, str (dotted l)), (1, str l)]) (fun i pl w' => Gr w w' ∧ Bx w' q (pl.flatMap encI) ∧ pl.length = l.length + 3 ∧ i ≤ ls.length ∧ hvAll (dotted l) (ls.drop i) pl = hvRaw ls l) (fun i _ => ls.length - i) 0 (List.replicate (l.length + 3) 0) ⟨rfl, rfl, rfl, rfl, rfl, rfl, trivial⟩ ⟨Gr.A, hB0, by simp, by omega, rfl⟩ ?_
  clear hB0
  rintro i pl w' ⟨g, hB, hpl, hi, hR⟩
  have hqz := hB.lt
  by_cases hlt : i < ls.length
  · obtain ⟨u, hu⟩ : ∃ u, ls[i]? = some u := ⟨_, List.getElem?_eq_getElem hlt⟩
    have hs := hS.nn (by omega)
    have cx := (hS.el i u hu).gr g
    have hku := hk u (List.mem_of_getElem? hu)
    have hou := (patsOk_iff.1 hp).1 u (List.mem_of_getElem? hu)
    obtain ⟨o1, o2, o3, _⟩ := pOk_facts hou
    rw [hvAll_step hu, hdl] at hR
    repeat' (first | refine wl_nil ?_ | refine Th_normal ?_ | refine W_seq ?_ | refine W_region ?_ | refine W_condT rfl ?_ | refine W_condF rfl ?_ | refine W_block ?_ | refine W_ret ?_ | refine W_exit ?_ | refine W_skip ?_ | refine Th_ret ?_ | refine Th_exit ?_ | refine Bl_normal ?_ | refine Bl_ret ?_ | refine Bl_exit rfl ?_ | refine Bl_pass rfl ?_ | refine W_condB rfl (fun tt => ?_) (fun tt => ?_) | (show fnPost _ _ _ _ _ _ _; refine fret (rv1 rfl rfl) ?_) | (show WL _ _ _ _ _ _ _; first | (refine wl_do (op := .call { callee := .value (.func 88), args := _, argTypes := _ }) rfl rfl ?_; refine st_call Try.func88 rfl rfl rfl (impl_ParsePattern u _ hku) ?_; rintro e w1 ⟨B, d, rfl, g1, hO⟩; refine ⟨_, rfl, ?_⟩; have z1 := g1.size; have hsb := hO.sb (fun _ => rfl); clear hO) | (refine wl_val rfl rfl (q_lenTn (l.length + 2) rfl (dotted_len l)) ?_) | (refine wl_val rfl rfl (q_lenT rfl) ?_) | refine wl_val rfl rfl (q_pv rfl) ?_ | refine wl_skip rfl rfl ?_ | refine wl_val rfl rfl (q_add rfl rfl (by omega)) ?_ | refine wl_val rfl rfl (q_len rfl) ?_ | refine wl_val rfl rfl (q_lenS rfl) ?_ | refine wl_val rfl rfl (q_indexAddr _ rfl rfl rfl (by omega) (by first | assumption | rfl)) ?_ | refine wl_val rfl rfl (q_indexAddrI rfl rfl (by omega) (by omega) (by first | assumption | rfl)) ?_ | refine wl_val rfl rfl (q_loadA rfl Cs.A (by rfl)) ?_ | refine wl_val rfl rfl (q_load1 rfl Cs.A (by rfl)) ?_ | refine wl_val rfl rfl (q_loadS rfl Cs.A (by rfl) (by rfl)) ?_ | (refine wl_do rfl rfl ?_; first | refine st_store rfl rfl rfl rfl rfl rfl Bx.A (by first | rfl | (rw [Nat.ble_eq]; simp; omega)) (fun w1 g1 z1 f1 => ?_) | refine st_makeSlice rfl rfl rfl (by omega) (fun b w1 e1 g1 z1 f1 => ?_)) | refine wl_val rfl rfl (q_lss1 rfl rfl (by omega)) ?_ | refine wl_val rfl rfl (q_lss0 rfl rfl (by omega)) ?_ | refine wl_lss rfl rfl rfl rfl (fun tt => ?_) (fun tt => ?_) | refine wl_val rfl rfl (q_max rfl rfl) ?_ | refine wl_val rfl rfl (q_addw rfl rfl) ?_))
    refine W_loop2 (fun (k : Nat) (p2 : List Int) => [(44, .int .i64 (k : Int)), (43, .int .i64 ((l.length + 2 : Nat) : Int)), (9, str (pChars u)), (10, .slice B (pVals u).length d), (32, .int .i64 (i : Int)), (30, .slice A ls.length c), (31, .int .i64 (ls.length : Int)), (6, .slice (some ⟨q, 0, none⟩) (l.length + 3) (l.length + 3)), (5, str (dotted l)), (1, str l)]) (fun k p2 w6 => Gr w w6 ∧ Bx w6 q (p2.flatMap encI) ∧ SB w6 w'.heap.size w1.heap.size B 1 encI (pVals u) ∧ p2.length = l.length + 3 ∧ k ≤ (l.length + 2) ∧ atsGo (dotted l) (pChars u) (pVals u) ((l.length + 2) - k) k p2 = atsGo (dotted l) (pChars u) (pVals u) (l.length + 2) 0 pl) (fun k _ => (l.length + 2) - k) 0 pl ⟨rfl, rfl, rfl, rfl, rfl, rfl, rfl, rfl, rfl, rfl, trivial⟩ ⟨Gr.A, Bx.A, hsb, hpl, by omega, rfl⟩ ?_
    clear hsb
    rintro k p2 w6 ⟨g6, hB6, hsb, hp2, hkb, hA⟩
    have hqz6 := hB6.lt
    by_cases hkt : k < l.length + 2
    · cases hat : isAt (dotted l) k (pChars u)
      · rw [atsGo_no hkt hat] at hA
        repeat' (first | refine wl_nil ?_ | refine Th_normal ?_ | refine W_seq ?_ | refine W_region ?_ | refine W_condT rfl ?_ | refine W_condF rfl ?_ | refine W_block ?_ | refine W_ret ?_ | refine W_exit ?_ | refine W_skip ?_ | refine Th_ret ?_ | refine Th_exit ?_ | refine Bl_normal ?_ | refine Bl_ret ?_ | refine Bl_exit rfl ?_ | refine Bl_pass rfl ?_ | refine W_condB rfl (fun tt => ?_) (fun tt => ?_) | (show fnPost _ _ _ _ _ _ _; refine fret (rv1 rfl rfl) ?_) | (show WL _ _ _ _ _ _ _; first | (refine wl_do (op := .call { callee := .value (.func 96), args := _, argTypes := _ }) rfl rfl ?_; refine st_callP Try.func96 rfl rfl rfl (lib_HasPrefix _ _ _ _ (by simp; omega) hat) ?_) | (refine wl_val rfl rfl (q_lenTn (l.length + 2) rfl (dotted_len l)) ?_) | (refine wl_val rfl rfl (q_sliceFromT rfl rfl (by omega) (by omega)) ?_) | refine wl_val rfl rfl (q_pv rfl) ?_ | refine wl_skip rfl rfl ?_ | refine wl_val rfl rfl (q_add rfl rfl (by omega)) ?_ | refine wl_val rfl rfl (q_len rfl) ?_ | refine wl_val rfl rfl (q_lenS rfl) ?_ | refine wl_val rfl rfl (q_indexAddr _ rfl rfl rfl (by omega) (by first | assumption | rfl)) ?_ | refine wl_val rfl rfl (q_indexAddrI rfl rfl (by omega) (by omega) (by first | assumption | rfl)) ?_ | refine wl_val rfl rfl (q_loadA rfl Cs.A (by rfl)) ?_ | refine wl_val rfl rfl (q_load1 rfl Cs.A (by rfl)) ?_ | refine wl_val rfl rfl (q_loadS rfl Cs.A (by rfl) (by rfl)) ?_ | (refine wl_do rfl rfl ?_; first | refine st_store rfl rfl rfl rfl rfl rfl Bx.A (by first | rfl | (rw [Nat.ble_eq]; simp; omega)) (fun w1 g1 z1 f1 => ?_) | refine st_makeSlice rfl rfl rfl (by omega) (fun b w1 e1 g1 z1 f1 => ?_)) | refine wl_val rfl rfl (q_lss1 rfl rfl (by omega)) ?_ | refine wl_val rfl rfl (q_lss0 rfl rfl (by omega)) ?_ | refine wl_lss rfl rfl rfl rfl (fun tt => ?_) (fun tt => ?_) | refine wl_val rfl rfl (q_max rfl rfl) ?_ | refine wl_val rfl rfl (q_addw rfl rfl) ?_))
        exact ⟨k + 1, p2, by omega, ⟨Gr.A, Bx.A, SB.A, hp2, by omega, hA⟩, ⟨rfl, rfl, rfl, rfl, rfl, rfl, rfl, rfl, rfl, rfl, trivial⟩⟩
      · rw [atsGo_yes hkt hat] at hA
        have hfit : k + (pChars u).length ≤ l.length + 2 := by
          rcases Nat.lt_or_ge (l.length + 2) (k + (pChars u).length) with h9 | h9
          · have := isAt_far (t := dotted l) (cs := pChars u) (k := k) (by omega) o1
            rw [this] at hat; cases hat
          · exact h9
        repeat' (first | refine wl_nil ?_ | refine Th_normal ?_ | refine W_seq ?_ | refine W_region ?_ | refine W_condT rfl ?_ | refine W_condF rfl ?_ | refine W_block ?_ | refine W_ret ?_ | refine W_exit ?_ | refine W_skip ?_ | refine Th_ret ?_ | refine Th_exit ?_ | refine Bl_normal ?_ | refine Bl_ret ?_ | refine Bl_exit rfl ?_ | refine Bl_pass rfl ?_ | refine W_condB rfl (fun tt => ?_) (fun tt => ?_) | (show fnPost _ _ _ _ _ _ _; refine fret (rv1 rfl rfl) ?_) | (show WL _ _ _ _ _ _ _; first | (refine wl_do (op := .call { callee := .value (.func 96), args := _, argTypes := _ }) rfl rfl ?_; refine st_callP Try.func96 rfl rfl rfl (lib_HasPrefix _ _ _ _ (by simp; omega) hat) ?_) | (refine wl_val rfl rfl (q_lenTn (l.length + 2) rfl (dotted_len l)) ?_) | (refine wl_val rfl rfl (q_sliceFromT rfl rfl (by omega) (by omega)) ?_) | refine wl_val rfl rfl (q_pv rfl) ?_ | refine wl_skip rfl rfl ?_ | refine wl_val rfl rfl (q_add rfl rfl (by omega)) ?_ | refine wl_val rfl rfl (q_len rfl) ?_ | refine wl_val rfl rfl (q_lenS rfl) ?_ | refine wl_val rfl rfl (q_indexAddr _ rfl rfl rfl (by omega) (by first | assumption | rfl)) ?_ | refine wl_val rfl rfl (q_indexAddrI rfl rfl (by omega) (by omega) (by first | assumption | rfl)) ?_ | refine wl_val rfl rfl (q_loadA rfl Cs.A (by rfl)) ?_ | refine wl_val rfl rfl (q_load1 rfl Cs.A (by rfl)) ?_ | refine wl_val rfl rfl (q_loadS rfl Cs.A (by rfl) (by rfl)) ?_ | (refine wl_do rfl rfl ?_; first | refine st_store rfl rfl rfl rfl rfl rfl Bx.A (by first | rfl | (rw [Nat.ble_eq]; simp; omega)) (fun w1 g1 z1 f1 => ?_) | refine st_makeSlice rfl rfl rfl (by omega) (fun b w1 e1 g1 z1 f1 => ?_)) | refine wl_val rfl rfl (q_lss1 rfl rfl (by omega)) ?_ | refine wl_val rfl rfl (q_lss0 rfl rfl (by omega)) ?_ | refine wl_lss rfl rfl rfl rfl (fun tt => ?_) (fun tt => ?_) | refine wl_val rfl rfl (q_max rfl rfl) ?_ | refine wl_val rfl rfl (q_addw rfl rfl) ?_))
        refine W_loop2 (fun (j : Nat) (p3 : List Int) => [(55, .int .i64 (j : Int)), (53, .slice B (pVals u).length d), (54, .int .i64 ((pVals u).length : Int)), (12, .int .i64 (k : Int)), (44, .int .i64 (k : Int)), (43, .int .i64 ((l.length + 2 : Nat) : Int)), (9, str (pChars u)), (10, .slice B (pVals u).length d), (32, .int .i64 (i : Int)), (30, .slice A ls.length c), (31, .int .i64 (ls.length : Int)), (6, .slice (some ⟨q, 0, none⟩) (l.length + 3) (l.length + 3)), (5, str (dotted l)), (1, str l)]) (fun j p3 w7 => Gr w w7 ∧ Bx w7 q (p3.flatMap encI) ∧ SB w7 w'.heap.size w1.heap.size B 1 encI (pVals u) ∧ p3.length = l.length + 3 ∧ j ≤ (pVals u).length ∧ putGo p3 (k + j) ((pVals u).drop j) = putGo p2 k (pVals u)) (fun j _ => (pVals u).length - j) 0 p2 ⟨rfl, rfl, rfl, rfl, rfl, rfl, rfl, rfl, rfl, rfl, rfl, rfl, rfl, rfl, trivial⟩ ⟨Gr.A, Bx.A, SB.A, hp2, by omega, rfl⟩ ?_
        clear hsb hB6
        rintro j p3 w7 ⟨g7, hB7, hsb, hp3, hjb, hP⟩
        have hqz7 := hB7.lt
        by_cases hjt : j < (pVals u).length
        · obtain ⟨v, hv⟩ : ∃ v, (pVals u)[j]? = some v := ⟨_, List.getElem?_eq_getElem hjt⟩
          obtain ⟨x, hx⟩ : ∃ x, p3[((k : Int) + (j : Int)).toNat]? = some x := ⟨_, List.getElem?_eq_getElem (by omega)⟩
          have hkj : ((k : Int) + (j : Int)).toNat = k + j := by omega
          have hs2 := hsb.sl.nn (by omega)
          have cv := hsb.sl.el j v hv
          have cx2 := (Bx.sl (enc := encI) (sz := 1) (xs := p3) hB7 (fun _ => rfl) rfl).el _ x hx
          rw [putGo_step hv] at hP
          repeat' (first | refine wl_nil ?_ | refine Th_normal ?_ | refine W_seq ?_ | refine W_region ?_ | refine W_condT rfl ?_ | refine W_condF rfl ?_ | refine W_block ?_ | refine W_ret ?_ | refine W_exit ?_ | refine W_skip ?_ | refine Th_ret ?_ | refine Th_exit ?_ | refine Bl_normal ?_ | refine Bl_ret ?_ | refine Bl_exit rfl ?_ | refine Bl_pass rfl ?_ | refine W_condB rfl (fun tt => ?_) (fun tt => ?_) | (show fnPost _ _ _ _ _ _ _; refine fret (rv1 rfl rfl) ?_) | (show WL _ _ _ _ _ _ _; first | (refine wl_do rfl rfl ?_; refine st_store rfl rfl (ea_own _ _) rfl rfl rfl Bx.A (by rw [Nat.ble_eq, encI_len]; simp only [List.length_cons, List.length_nil]; omega) (fun w8 g8 z8 f8 => ?_)) | refine wl_val rfl rfl (q_pv rfl) ?_ | refine wl_skip rfl rfl ?_ | refine wl_val rfl rfl (q_add rfl rfl (by omega)) ?_ | refine wl_val rfl rfl (q_len rfl) ?_ | refine wl_val rfl rfl (q_lenS rfl) ?_ | refine wl_val rfl rfl (q_indexAddr _ rfl rfl rfl (by omega) (by first | assumption | rfl)) ?_ | refine wl_val rfl rfl (q_indexAddrI rfl rfl (by omega) (by omega) (by first | assumption | rfl)) ?_ | refine wl_val rfl rfl (q_loadA rfl Cs.A (by rfl)) ?_ | refine wl_val rfl rfl (q_load1 rfl Cs.A (by rfl)) ?_ | refine wl_val rfl rfl (q_loadS rfl Cs.A (by rfl) (by rfl)) ?_ | (refine wl_do rfl rfl ?_; first | refine st_store rfl rfl rfl rfl rfl rfl Bx.A (by first | rfl | (rw [Nat.ble_eq]; simp; omega)) (fun w1 g1 z1 f1 => ?_) | refine st_makeSlice rfl rfl rfl (by omega) (fun b w1 e1 g1 z1 f1 => ?_)) | refine wl_val rfl rfl (q_lss1 rfl rfl (by omega)) ?_ | refine wl_val rfl rfl (q_lss0 rfl rfl (by omega)) ?_ | refine wl_lss rfl rfl rfl rfl (fun tt => ?_) (fun tt => ?_) | refine wl_val rfl rfl (q_max rfl rfl) ?_ | refine wl_val rfl rfl (q_addw rfl rfl) ?_))
          have hmx : max (p3.getD (k + j) 0) v = max x v := by
            rw [hkj] at hx
            simp [List.getD, hx]
          rw [hmx] at hP
          have f9 : Bx w8 q ((p3.set (k + j) (max x v)).flatMap encI) := by
            rw [encI_set _ _ _ (by omega), ← hkj, ← Nat.mul_one ((k : Int) + (j : Int)).toNat]
            exact f8
          exact ⟨j + 1, p3.set (k + j) (max x v), by omega, ⟨Gr.A, f9, SB.A, by simpa using hp3, by omega, hP⟩, ⟨rfl, rfl, rfl, rfl, rfl, rfl, rfl, rfl, rfl, rfl, rfl, rfl, rfl, rfl, trivial⟩⟩
        · rw [putGo_nil (by omega)] at hP
          rw [← hP] at hA
          repeat' (first | refine wl_nil ?_ | refine Th_normal ?_ | refine W_seq ?_ | refine W_region ?_ | refine W_condT rfl ?_ | refine W_condF rfl ?_ | refine W_block ?_ | refine W_ret ?_ | refine W_exit ?_ | refine W_skip ?_ | refine Th_ret ?_ | refine Th_exit ?_ | refine Bl_normal ?_ | refine Bl_ret ?_ | refine Bl_exit rfl ?_ | refine Bl_pass rfl ?_ | refine W_condB rfl (fun tt => ?_) (fun tt => ?_) | (show fnPost _ _ _ _ _ _ _; refine fret (rv1 rfl rfl) ?_) | (show WL _ _ _ _ _ _ _; first | refine wl_val rfl rfl (q_pv rfl) ?_ | refine wl_skip rfl rfl ?_ | refine wl_val rfl rfl (q_add rfl rfl (by omega)) ?_ | refine wl_val rfl rfl (q_len rfl) ?_ | refine wl_val rfl rfl (q_lenS rfl) ?_ | refine wl_val rfl rfl (q_indexAddr _ rfl rfl rfl (by omega) (by first | assumption | rfl)) ?_ | refine wl_val rfl rfl (q_indexAddrI rfl rfl (by omega) (by omega) (by first | assumption | rfl)) ?_ | refine wl_val rfl rfl (q_loadA rfl Cs.A (by rfl)) ?_ | refine wl_val rfl rfl (q_load1 rfl Cs.A (by rfl)) ?_ | refine wl_val rfl rfl (q_loadS rfl Cs.A (by rfl) (by rfl)) ?_ | (refine wl_do rfl rfl ?_; first | refine st_store rfl rfl rfl rfl rfl rfl Bx.A (by first | rfl | (rw [Nat.ble_eq]; simp; omega)) (fun w1 g1 z1 f1 => ?_) | refine st_makeSlice rfl rfl rfl (by omega) (fun b w1 e1 g1 z1 f1 => ?_)) | refine wl_val rfl rfl (q_lss1 rfl rfl (by omega)) ?_ | refine wl_val rfl rfl (q_lss0 rfl rfl (by omega)) ?_ | refine wl_lss rfl rfl rfl rfl (fun tt => ?_) (fun tt => ?_) | refine wl_val rfl rfl (q_max rfl rfl) ?_ | refine wl_val rfl rfl (q_addw rfl rfl) ?_))
          exact ⟨k + 1, p3, by omega, ⟨Gr.A, Bx.A, SB.A, hp3, by omega, hA⟩, ⟨rfl, rfl, rfl, rfl, rfl, rfl, rfl, rfl, rfl, rfl, trivial⟩⟩
    · rw [atsGo_end (by omega)] at hA
      rw [← hA] at hR
      repeat' (first | refine wl_nil ?_ | refine Th_normal ?_ | refine W_seq ?_ | refine W_region ?_ | refine W_condT rfl ?_ | refine W_condF rfl ?_ | refine W_block ?_ | refine W_ret ?_ | refine W_exit ?_ | refine W_skip ?_ | refine Th_ret ?_ | refine Th_exit ?_ | refine Bl_normal ?_ | refine Bl_ret ?_ | refine Bl_exit rfl ?_ | refine Bl_pass rfl ?_ | refine W_condB rfl (fun tt => ?_) (fun tt => ?_) | (show fnPost _ _ _ _ _ _ _; refine fret (rv1 rfl rfl) ?_) | (show WL _ _ _ _ _ _ _; first | refine wl_val rfl rfl (q_pv rfl) ?_ | refine wl_skip rfl rfl ?_ | refine wl_val rfl rfl (q_add rfl rfl (by omega)) ?_ | refine wl_val rfl rfl (q_len rfl) ?_ | refine wl_val rfl rfl (q_lenS rfl) ?_ | refine wl_val rfl rfl (q_indexAddr _ rfl rfl rfl (by omega) (by first | assumption | rfl)) ?_ | refine wl_val rfl rfl (q_indexAddrI rfl rfl (by omega) (by omega) (by first | assumption | rfl)) ?_ | refine wl_val rfl rfl (q_loadA rfl Cs.A (by rfl)) ?_ | refine wl_val rfl rfl (q_load1 rfl Cs.A (by rfl)) ?_ | refine wl_val rfl rfl (q_loadS rfl Cs.A (by rfl) (by rfl)) ?_ | (refine wl_do rfl rfl ?_; first | refine st_store rfl rfl rfl rfl rfl rfl Bx.A (by first | rfl | (rw [Nat.ble_eq]; simp; omega)) (fun w1 g1 z1 f1 => ?_) | refine st_makeSlice rfl rfl rfl (by omega) (fun b w1 e1 g1 z1 f1 => ?_)) | refine wl_val rfl rfl (q_lss1 rfl rfl (by omega)) ?_ | refine wl_val rfl rfl (q_lss0 rfl rfl (by omega)) ?_ | refine wl_lss rfl rfl rfl rfl (fun tt => ?_) (fun tt => ?_) | refine wl_val rfl rfl (q_max rfl rfl) ?_ | refine wl_val rfl rfl (q_addw rfl rfl) ?_))
      exact ⟨i + 1, p2, by omega, ⟨Gr.A, Bx.A, hp2, by omega, hR⟩, ⟨rfl, rfl, rfl, rfl, rfl, rfl, trivial⟩⟩
  · have hend := hvAll_end (t := dotted l) (ls := ls) (i := i) (pl := pl) (by omega)
    rw [hend] at hR
    repeat' (first | refine wl_nil ?_ | refine Th_normal ?_ | refine W_seq ?_ | refine W_region ?_ | refine W_condT rfl ?_ | refine W_condF rfl ?_ | refine W_block ?_ | refine W_ret ?_ | refine W_exit ?_ | refine W_skip ?_ | refine Th_ret ?_ | refine Th_exit ?_ | refine Bl_normal ?_ | refine Bl_ret ?_ | refine Bl_exit rfl ?_ | refine Bl_pass rfl ?_ | refine W_condB rfl (fun tt => ?_) (fun tt => ?_) | (show fnPost _ _ _ _ _ _ _; refine fret (rv1 rfl rfl) ?_) | (show WL _ _ _ _ _ _ _; first | (refine wl_val rfl rfl (q_lenTn (l.length + 2) rfl (dotted_len l)) ?_) | (refine wl_val rfl rfl (q_lenT rfl) ?_) | (refine wl_val rfl rfl (q_slice3 rfl rfl rfl rfl (by omega) (by omega) (by omega) (by omega)) ?_) | refine wl_val rfl rfl (q_pv rfl) ?_ | refine wl_skip rfl rfl ?_ | refine wl_val rfl rfl (q_add rfl rfl (by omega)) ?_ | refine wl_val rfl rfl (q_len rfl) ?_ | refine wl_val rfl rfl (q_lenS rfl) ?_ | refine wl_val rfl rfl (q_indexAddr _ rfl rfl rfl (by omega) (by first | assumption | rfl)) ?_ | refine wl_val rfl rfl (q_indexAddrI rfl rfl (by omega) (by omega) (by first | assumption | rfl)) ?_ | refine wl_val rfl rfl (q_loadA rfl Cs.A (by rfl)) ?_ | refine wl_val rfl rfl (q_load1 rfl Cs.A (by rfl)) ?_ | refine wl_val rfl rfl (q_loadS rfl Cs.A (by rfl) (by rfl)) ?_ | (refine wl_do rfl rfl ?_; first | refine st_store rfl rfl rfl rfl rfl rfl Bx.A (by first | rfl | (rw [Nat.ble_eq]; simp; omega)) (fun w1 g1 z1 f1 => ?_) | refine st_makeSlice rfl rfl rfl (by omega) (fun b w1 e1 g1 z1 f1 => ?_)) | refine wl_val rfl rfl (q_lss1 rfl rfl (by omega)) ?_ | refine wl_val rfl rfl (q_lss0 rfl rfl (by omega)) ?_ | refine wl_lss rfl rfl rfl rfl (fun tt => ?_) (fun tt => ?_) | refine wl_val rfl rfl (q_max rfl rfl) ?_ | refine wl_val rfl rfl (q_addw rfl rfl) ?_))
    have e1 : ((l.length : Int) + 1).toNat - Int.toNat 2 = (hvCut ls l).length := by rw [hvCut_len]; omega
    refine ⟨subA (some ⟨q, 0, none⟩) ((l.length : Int) + 1).toNat (Int.toNat 2) 1, ((l.length : Int) + 1).toNat - Int.toNat 2, q, by rw [e1], Gr.A, by omega, by omega, ?_⟩
    have hc := Wo.cut (i := 2) (j := l.length + 1) (k := l.length + 1) hB (by omega) (by omega) (by omega)
    rw [hR] at hc
    exact hc

end Go.Proofs.Ytdenlafdbfbkoaa
