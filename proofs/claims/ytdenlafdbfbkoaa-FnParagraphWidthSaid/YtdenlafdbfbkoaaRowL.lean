/- From a walk to the given row: how each kind of argument is opened. -/
import Derived.Test.YtdenlafdbfbkoaaRows
import Derived.Test.YtdenlafdbfbkoaaLib
import Derived.Test.YtdenlafdbfbkoaaEnc
import Derived.ProofKit
import Derived.OpenShut
import Derived.Lib.SmallJoins
import Derived.Deep.Strs
namespace Go.Proofs.Ytdenlafdbfbkoaa
open Go.ChangeShapes Go.WideShapes Go.ChangeAt Go.RowKit Go.Joins Go.Deep
set_option linter.unusedVariables false
set_option linter.unusedSimpArgs false

theorem own : ownKnob Try.prog.godebug = none := by kernel_rfl
theorem laidOut : laidOutB Try.prog = true := by kernel_rfl

section
variable {H : Type} {enc : TypeId × Value → H} {P : Program} {w : World} {base : Nat} {spare : Nat → Bool} {held : Bool}
theorem open_glue {r : Reach} {b0 : Nat} {t : TypeId} {f0 f1 f2 : Field} {v : Value} {d : DataW H} {p : List MemPlace} (hs : P.underlying t = some (.struct #[f0, f1, f2])) (hone : oneCellFields P #[f0, f1, f2] = true) (hC : P.cellsOf t = 3)
    (i0 : P.underlying f0.type = some (.int .i64)) (i1 : P.underlying f1.type = some (.int .i64)) (i2 : P.underlying f2.type = some (.int .i64))
    (hv : Value.okWide P w r b0 t v) (h : DataW.Trod enc P w base spare held t v d p) : ∃ g : Glue, v = vG g := by
  obtain ⟨v0, v1, v2, y0, y1, y2, n, rfl, _, _, h0, h1, h2⟩ := open_agg3 hs hone hC hv h
  obtain ⟨a, ha, _⟩ := DataW.trod_int i0 h0
  obtain ⟨b, hb, _⟩ := DataW.trod_int i1 h1
  obtain ⟨c, hc, _⟩ := DataW.trod_int i2 h2
  simp only [List.cons.injEq, and_true] at ha hb hc
  subst ha hb hc
  exact ⟨⟨a, b, c⟩, rfl⟩

/-- A text that came in. -/
theorem open_str {r : Reach} {b0 : Nat} {t : TypeId} {v : Value} {d : DataW H} {p : List MemPlace} (ht : P.underlying t = some .string)
    (hv : Value.okWide P w r b0 t v) (h : DataW.Trod enc P w base spare held t v d p) : ∃ l : List UInt8, v = str l ∧ l.length ≤ 9223372036854775807 := by
  obtain ⟨s, rfl⟩ := okWide_string ht hv
  obtain ⟨m, hm⟩ := h
  obtain ⟨s', h1, _, h2⟩ := DataW.trod_string ht hm
  simp [Value.cells] at h1
  subst h1
  refine ⟨s.data.toList, by simp [str], ?_⟩
  have e : s.data.toList.length = s.size := Array.length_toList
  rw [e]
  simp only [maxLen] at h2
  omega

theorem cells_Cs {a : Addr} {k : Nat} {cs : List Value} (h : w.cells? base a k = some cs) : cs.length = k ∧ Cs w a cs := by
  obtain ⟨_, h1, h2⟩ := World.cells?_some h
  refine ⟨h1, fun j u hu => ?_⟩
  have hj : j < cs.length := (List.getElem?_eq_some_iff.1 hu).1
  rw [h2 j (by omega)]; exact hu

theorem choose_list {α : Type} {p : Nat → α → Prop} : ∀ n : Nat, (∀ i, i < n → ∃ z, p i z) → ∃ zs : List α, zs.length = n ∧ ∀ (i : Nat) (z : α), zs[i]? = some z → p i z
  | 0, _ => ⟨[], rfl, fun i z h => by simp at h⟩
  | n + 1, h => by
    obtain ⟨zs, h1, h2⟩ := choose_list n (fun i hi => h i (by omega))
    obtain ⟨z, hz⟩ := h n (by omega)
    refine ⟨zs ++ [z], by simp [h1], fun i y hy => ?_⟩
    by_cases hi : i < zs.length
    · rw [List.getElem?_append_left hi] at hy; exact h2 i y hy
    · rw [List.getElem?_append_right (by omega)] at hy
      have : i - zs.length = 0 := by
        cases hk : i - zs.length with
        | zero => rfl
        | succ k => rw [hk] at hy; simp at hy
      rw [this] at hy
      simp at hy
      subst hy
      have : i = n := by omega
      subst this; exact hz

/-- A slice that came in, opened by a reading of its elements. -/
theorem open_slice {α : Type} {sz : Nat} {en : α → List Value} {good : α → Prop} {r : Reach} {b0 : Nat} {t e : TypeId} {v : Value} {d : DataW H} {ps : List MemPlace} (ht : P.underlying t = some (.slice e)) (hC : P.cellsOf e = sz)
    (hv : Value.okWide P w r b0 t v) (h : DataW.Trod enc P w base spare held t v d ps)
    (each : ∀ (m : Nat) (cs : List Value) (x : DataW H × List MemPlace), DataW.trod enc P w base spare held m e cs = some x → cs.length = sz → ∃ z, cs = en z ∧ good z) :
    ∃ A c, ∃ zs : List α, v = .slice A zs.length c ∧ Sl w A sz en zs ∧ (∀ z ∈ zs, good z) ∧ zs.length ≤ c ∧ zs.length ≤ 9223372036854775807 := by
  obtain ⟨A, l, c, rfl⟩ := okWide_slice ht hv
  obtain ⟨fuel, hf⟩ := h
  rcases DataW.trod_slice ht hf with ⟨h0, _⟩ | ⟨a, len, cap, elems, rest, n, _, hcs, _, hb, hl, hm, hlen, hel, _, _⟩
  · simp [Value.cells] at h0
    obtain ⟨rfl, rfl, rfl⟩ := h0
    exact ⟨none, 0, [], rfl, Sl.nil, fun z hz => by simp at hz, by simp, by simp⟩
  · simp [Value.cells] at hcs
    obtain ⟨rfl, rfl, rfl⟩ := hcs
    obtain ⟨zs, hz, hp⟩ := choose_list (p := fun i z => Cs w (ea (some a) (i * sz)) (en z) ∧ good z) l (fun i hi => by
      have hi2 := hel i hi
      rw [List.getElem?_eq_getElem (by omega), hC] at hi2
      obtain ⟨cs, h1, h2⟩ := Option.bind_eq_some_iff.1 hi2
      obtain ⟨c1, c2⟩ := cells_Cs h1
      obtain ⟨z, rfl, hg⟩ := each _ _ _ h2 c1
      exact ⟨z, c2, hg⟩)
    refine ⟨some a, c, zs, by rw [hz], ⟨fun _ => rfl, fun i x hx => (hp i x hx).1⟩, fun z hz' => ?_, by omega, by unfold maxLen at hm; omega⟩
    obtain ⟨i, hi⟩ := List.getElem?_of_mem hz'
    exact (hp i z hi).2

theorem open_bytes {r : Reach} {b0 : Nat} {t e : TypeId} {v : Value} {d : DataW H} {ps : List MemPlace} (ht : P.underlying t = some (.slice e)) (he : P.underlying e = some (.int .u8)) (hC : P.cellsOf e = 1)
    (hv : Value.okWide P w r b0 t v) (h : DataW.Trod enc P w base spare held t v d ps) : ∃ A c zs, v = .slice A zs.length c ∧ Code w A c zs := by
  obtain ⟨A, c, zs, h1, h2, h3, h4, h5⟩ := open_slice (en := encU) (good := fun z => 0 ≤ z ∧ z < 256) ht hC hv h (fun m cs x hx hl => by
    obtain ⟨n, hn, _, hw⟩ := DataW.trod_int he hx
    refine ⟨n, hn, ?_⟩
    simp [Lit.wf, IntKind.min, IntKind.max, IntKind.signed, IntKind.bits] at hw
    omega)
  exact ⟨A, c, zs, h1, h2, h3, h4, h5⟩

theorem open_nums {r : Reach} {b0 : Nat} {t e : TypeId} {v : Value} {d : DataW H} {ps : List MemPlace} (ht : P.underlying t = some (.slice e)) (he : P.underlying e = some (.int .i64)) (hC : P.cellsOf e = 1)
    (hv : Value.okWide P w r b0 t v) (h : DataW.Trod enc P w base spare held t v d ps) : ∃ A c, ∃ zs : List Int, v = .slice A zs.length c ∧ Sl w A 1 encI zs ∧ zs.length ≤ c ∧ zs.length ≤ 9223372036854775807 := by
  obtain ⟨A, c, zs, h1, h2, h3, h4, h5⟩ := open_slice (en := encI) (good := fun _ => True) ht hC hv h (fun m cs x hx hl => by
    obtain ⟨n, hn, _, hw⟩ := DataW.trod_int he hx
    exact ⟨n, hn, trivial⟩)
  exact ⟨A, c, zs, h1, h2, h4, h5⟩

theorem open_strs {r : Reach} {b0 : Nat} {t e : TypeId} {v : Value} {d : DataW H} {ps : List MemPlace} (ht : P.underlying t = some (.slice e)) (he : P.underlying e = some .string) (hC : P.cellsOf e = 1)
    (hv : Value.okWide P w r b0 t v) (h : DataW.Trod enc P w base spare held t v d ps) : ∃ A c, ∃ zs : List (List UInt8), v = .slice A zs.length c ∧ Sl w A 1 encS zs ∧ (∀ s ∈ zs, s.length ≤ 9223372036854775807) ∧ zs.length ≤ c ∧ zs.length ≤ 9223372036854775807 := by
  obtain ⟨A, c, zs, h1, h2, h3, h4, h5⟩ := open_slice (en := encS) (good := fun s => s.length ≤ 9223372036854775807) ht hC hv h (fun m cs x hx hl => by
    obtain ⟨s, h1, _, h2⟩ := DataW.trod_string he hx
    refine ⟨s.data.toList, by rw [h1]; simp [encS, str], ?_⟩
    have e : s.data.toList.length = s.size := Array.length_toList
    rw [e]
    simp only [maxLen] at h2
    omega)
  exact ⟨A, c, zs, h1, h2, h3, h4, h5⟩

theorem trod_g3 {t : TypeId} {f0 f1 f2 : Field} {m : Nat} {cs : List Value} {x : DataW H × List MemPlace} (hs : P.underlying t = some (.struct #[f0, f1, f2])) (o : f0.offset = 0 ∧ f1.offset = 1 ∧ f2.offset = 2)
    (z : P.cellsOf f0.type = 1 ∧ P.cellsOf f1.type = 1 ∧ P.cellsOf f2.type = 1) (i0 : P.underlying f0.type = some (.int .i64)) (i1 : P.underlying f1.type = some (.int .i64)) (i2 : P.underlying f2.type = some (.int .i64))
    (h : DataW.trod enc P w base spare held m t cs = some x) (hl : cs.length = 3) : ∃ g : Glue, cs = encG g := by
  obtain ⟨y0, y1, y2, n, _, _, h0, h1, h2⟩ := Go.Deep.trod_struct3 hs h
  obtain ⟨a, ha, _⟩ := DataW.trod_int i0 h0
  obtain ⟨b, hb, _⟩ := DataW.trod_int i1 h1
  obtain ⟨c, hc, _⟩ := DataW.trod_int i2 h2
  rw [o.1, z.1] at ha
  rw [o.2.1, z.2.1] at hb
  rw [o.2.2, z.2.2] at hc
  match cs, hl with
  | [u0, u1, u2], _ =>
    simp at ha hb hc
    subst ha hb hc
    exact ⟨⟨a, b, c⟩, rfl⟩

theorem trod_t6 {t : TypeId} {f0 f1 f2 f3 g0 g1 g2 : Field} {m : Nat} {cs : List Value} {x : DataW H × List MemPlace} (hs : P.underlying t = some (.struct #[f0, f1, f2, f3])) (hg : P.underlying f1.type = some (.struct #[g0, g1, g2]))
    (o : f0.offset = 0 ∧ f1.offset = 1 ∧ f2.offset = 4 ∧ f3.offset = 5) (z : P.cellsOf f0.type = 1 ∧ P.cellsOf f1.type = 3 ∧ P.cellsOf f2.type = 1 ∧ P.cellsOf f3.type = 1)
    (og : g0.offset = 0 ∧ g1.offset = 1 ∧ g2.offset = 2) (zg : P.cellsOf g0.type = 1 ∧ P.cellsOf g1.type = 1 ∧ P.cellsOf g2.type = 1)
    (i0 : P.underlying f0.type = some (.int .i64)) (i2 : P.underlying f2.type = some (.int .i64)) (i3 : P.underlying f3.type = some .bool)
    (j0 : P.underlying g0.type = some (.int .i64)) (j1 : P.underlying g1.type = some (.int .i64)) (j2 : P.underlying g2.type = some (.int .i64))
    (h : DataW.trod enc P w base spare held m t cs = some x) (hl : cs.length = 6) : ∃ y : Item, cs = encT y := by
  obtain ⟨y0, y1, y2, y3, n, _, _, h0, h1, h2, h3⟩ := trod_struct4 hs h
  obtain ⟨a, ha, _⟩ := DataW.trod_int i0 h0
  obtain ⟨c, hc, _⟩ := DataW.trod_int i2 h2
  obtain ⟨d, hd, _⟩ := DataW.trod_bool i3 h3
  rw [o.1, z.1] at ha
  rw [o.2.2.1, z.2.2.1] at hc
  rw [o.2.2.2, z.2.2.2] at hd
  rw [o.2.1, z.2.1] at h1
  match cs, hl with
  | [u0, u1, u2, u3, u4, u5], _ =>
    obtain ⟨g, hg'⟩ := trod_g3 hg og zg j0 j1 j2 h1 (by simp)
    simp [encG] at ha hc hd hg'
    obtain ⟨rfl, rfl, rfl⟩ := hg'
    subst ha hc hd
    exact ⟨⟨a, g, c, d⟩, rfl⟩

theorem open_items {r : Reach} {b0 : Nat} {t e : TypeId} {f0 f1 f2 f3 g0 g1 g2 : Field} {v : Value} {d : DataW H} {ps : List MemPlace} (ht : P.underlying t = some (.slice e)) (hC : P.cellsOf e = 6)
    (hs : P.underlying e = some (.struct #[f0, f1, f2, f3])) (hg : P.underlying f1.type = some (.struct #[g0, g1, g2]))
    (o : f0.offset = 0 ∧ f1.offset = 1 ∧ f2.offset = 4 ∧ f3.offset = 5) (z : P.cellsOf f0.type = 1 ∧ P.cellsOf f1.type = 3 ∧ P.cellsOf f2.type = 1 ∧ P.cellsOf f3.type = 1)
    (og : g0.offset = 0 ∧ g1.offset = 1 ∧ g2.offset = 2) (zg : P.cellsOf g0.type = 1 ∧ P.cellsOf g1.type = 1 ∧ P.cellsOf g2.type = 1)
    (i0 : P.underlying f0.type = some (.int .i64)) (i2 : P.underlying f2.type = some (.int .i64)) (i3 : P.underlying f3.type = some .bool)
    (j0 : P.underlying g0.type = some (.int .i64)) (j1 : P.underlying g1.type = some (.int .i64)) (j2 : P.underlying g2.type = some (.int .i64))
    (hv : Value.okWide P w r b0 t v) (h : DataW.Trod enc P w base spare held t v d ps) : ∃ A c xs, v = .slice A xs.length c ∧ Para w A c xs := by
  obtain ⟨A, c, xs, h1, h2, h3, h4, h5⟩ := open_slice (en := encT) (good := fun _ => True) ht hC hv h (fun m cs x hx hl => by
    obtain ⟨y, hy⟩ := trod_t6 hs hg o z og zg i0 i2 i3 j0 j1 j2 hx hl
    exact ⟨y, hy, trivial⟩)
  exact ⟨A, c, xs, h1, h2, h4, h5⟩
end
end Go.Proofs.Ytdenlafdbfbkoaa
