/- From a walk to the given row: how a font is opened. -/
import Derived.Test.YtdenlafdbfbkoaaRowL
import Derived.Test.YtdenlafdbfbkoaaFno
namespace Go.Proofs.Ytdenlafdbfbkoaa
open Go.ChangeShapes Go.WideShapes Go.ChangeAt Go.RowKit Go.Joins Go.Deep
set_option linter.unusedVariables false
set_option linter.unusedSimpArgs false

/-- A font that came in. -/
structure FSw (w : World) (a : FA) (f : Fnt) : Prop where
  W : Sl w a.wA 1 encI f.ws
  K : Sl w a.kA 3 encP f.ks
  L : Sl w a.lA 3 encP f.ls
  wl : f.ws.length ≤ 9223372036854775807
  kl : f.ks.length ≤ 9223372036854775807
  ll : f.ls.length ≤ 9223372036854775807

theorem FSw.fs {w : World} {a : FA} {f : Fnt} (h : FSw w a f) (l1 : f.ws.length ≤ 1048576) (l2 : f.ks.length ≤ 1048576) (l3 : f.ls.length ≤ 1048576) : FnS w a f := ⟨h.W, h.K, h.L, l1, l2, l3⟩

theorem list7 {α : Type} {l : List α} (h : l.length = 7) : ∃ c0 c1 c2 c3 c4 c5 c6, l = [c0, c1, c2, c3, c4, c5, c6] := by
  match l, h with
  | [c0, c1, c2, c3, c4, c5, c6], _ => exact ⟨c0, c1, c2, c3, c4, c5, c6, rfl⟩

section
variable {H : Type} {enc : TypeId × Value → H} {P : Program} {w : World} {base : Nat} {spare : Nat → Bool} {held : Bool}

theorem cells_slice {α : Type} {sz : Nat} {en : α → List Value} {t e : TypeId} {n : Nat} {cs : List Value} {x : DataW H × List MemPlace} (ht : P.underlying t = some (.slice e)) (hC : P.cellsOf e = sz)
    (hf : DataW.trod enc P w base spare held n t cs = some x)
    (each : ∀ (m : Nat) (cs : List Value) (x : DataW H × List MemPlace), DataW.trod enc P w base spare held m e cs = some x → cs.length = sz → ∃ z, cs = en z) :
    ∃ A c, ∃ zs : List α, cs = [.slice A zs.length c] ∧ Sl w A sz en zs ∧ zs.length ≤ 9223372036854775807 := by
  rcases DataW.trod_slice ht hf with ⟨h0, _⟩ | ⟨a, len, cap, elems, rest, n, _, hcs, _, hb, hl, hm, hlen, hel, _, _⟩
  · subst h0
    exact ⟨none, 0, [], rfl, Sl.nil, by simp⟩
  · subst hcs
    obtain ⟨zs, hz, hp⟩ := choose_list (p := fun i z => Cs w (ea (some a) (i * sz)) (en z)) len (fun i hi => by
      have hi2 := hel i hi
      rw [List.getElem?_eq_getElem (by omega), hC] at hi2
      obtain ⟨cs, h1, h2⟩ := Option.bind_eq_some_iff.1 hi2
      obtain ⟨c1, c2⟩ := cells_Cs h1
      obtain ⟨z, rfl⟩ := each _ _ _ h2 c1
      exact ⟨z, c2⟩)
    exact ⟨some a, cap, zs, by rw [hz], ⟨fun _ => rfl, fun i x hx => hp i x hx⟩, by unfold maxLen at hm; omega⟩

theorem trod_p3 {t : TypeId} {f0 f1 f2 : Field} {m : Nat} {cs : List Value} {x : DataW H × List MemPlace} (hs : P.underlying t = some (.struct #[f0, f1, f2])) (o : f0.offset = 0 ∧ f1.offset = 1 ∧ f2.offset = 2)
    (z : P.cellsOf f0.type = 1 ∧ P.cellsOf f1.type = 1 ∧ P.cellsOf f2.type = 1) (i0 : P.underlying f0.type = some (.int .i64)) (i1 : P.underlying f1.type = some (.int .i64)) (i2 : P.underlying f2.type = some (.int .i64))
    (h : DataW.trod enc P w base spare held m t cs = some x) (hl : cs.length = 3) : ∃ g : GP, cs = encP g := by
  obtain ⟨y0, y1, y2, n, _, _, h0, h1, h2⟩ := Go.Deep.trod_struct3 hs h
  obtain ⟨a, ha, _⟩ := DataW.trod_int i0 h0
  obtain ⟨b, hb, _⟩ := DataW.trod_int i1 h1
  obtain ⟨c, hc, _⟩ := DataW.trod_int i2 h2
  rw [o.1, z.1] at ha
  rw [o.2.1, z.2.1] at hb
  rw [o.2.2, z.2.2] at hc
  match cs, hl with
  | [u0, u1, u2], _ =>
    simp at ha hb hc
    subst ha hb hc
    exact ⟨⟨a, b, c⟩, rfl⟩

theorem trod_struct5 {t : TypeId} {f0 f1 f2 f3 f4 : Field} {fuel : Nat} {cs : List Value} {x : DataW H × List MemPlace} (ht : P.underlying t = some (.struct #[f0, f1, f2, f3, f4])) (h : DataW.trod enc P w base spare held fuel t cs = some x) :
    ∃ y0 y1 y2 y3 y4 n, DataW.trod enc P w base spare held n f0.type ((cs.drop f0.offset).take (P.cellsOf f0.type)) = some y0 ∧
      DataW.trod enc P w base spare held n f1.type ((cs.drop f1.offset).take (P.cellsOf f1.type)) = some y1 ∧ DataW.trod enc P w base spare held n f2.type ((cs.drop f2.offset).take (P.cellsOf f2.type)) = some y2 ∧
      DataW.trod enc P w base spare held n f3.type ((cs.drop f3.offset).take (P.cellsOf f3.type)) = some y3 ∧ DataW.trod enc P w base spare held n f4.type ((cs.drop f4.offset).take (P.cellsOf f4.type)) = some y4 := by
  obtain ⟨xs, n, _, rfl, hl, hlen, hf⟩ := DataW.trod_struct ht h
  match xs, hlen with
  | [y0, y1, y2, y3, y4], _ => exact ⟨y0, y1, y2, y3, y4, n, by simpa using hf 0 f0 rfl, by simpa using hf 1 f1 rfl, by simpa using hf 2 f2 rfl, by simpa using hf 3 f3 rfl, by simpa using hf 4 f4 rfl⟩

theorem open_font {r : Reach} {b0 : Nat} {t ei ep : TypeId} {f0 f1 f2 f3 f4 g0 g1 g2 p0 p1 p2 : Field} {v : Value} {d : DataW H} {ps : List MemPlace}
    (hs : P.underlying t = some (.struct #[f0, f1, f2, f3, f4])) (hC : P.cellsOf t = 7)
    (o : f0.offset = 0 ∧ f1.offset = 1 ∧ f2.offset = 4 ∧ f3.offset = 5 ∧ f4.offset = 6) (z : P.cellsOf f0.type = 1 ∧ P.cellsOf f1.type = 3 ∧ P.cellsOf f2.type = 1 ∧ P.cellsOf f3.type = 1 ∧ P.cellsOf f4.type = 1)
    (u0 : P.underlying f0.type = some (.slice ei)) (hei : P.underlying ei = some (.int .i64)) (cei : P.cellsOf ei = 1)
    (hg : P.underlying f1.type = some (.struct #[g0, g1, g2])) (og : g0.offset = 0 ∧ g1.offset = 1 ∧ g2.offset = 2) (zg : P.cellsOf g0.type = 1 ∧ P.cellsOf g1.type = 1 ∧ P.cellsOf g2.type = 1)
    (j0 : P.underlying g0.type = some (.int .i64)) (j1 : P.underlying g1.type = some (.int .i64)) (j2 : P.underlying g2.type = some (.int .i64))
    (i2 : P.underlying f2.type = some (.int .i64)) (u3 : P.underlying f3.type = some (.slice ep)) (u4 : P.underlying f4.type = some (.slice ep)) (cep : P.cellsOf ep = 3)
    (hp : P.underlying ep = some (.struct #[p0, p1, p2])) (op : p0.offset = 0 ∧ p1.offset = 1 ∧ p2.offset = 2) (zp : P.cellsOf p0.type = 1 ∧ P.cellsOf p1.type = 1 ∧ P.cellsOf p2.type = 1)
    (k0 : P.underlying p0.type = some (.int .i64)) (k1 : P.underlying p1.type = some (.int .i64)) (k2 : P.underlying p2.type = some (.int .i64))
    (hv : Value.okWide P w r b0 t v) (h : DataW.Trod enc P w base spare held t v d ps) : ∃ (a : FA) (f : Fnt), v = vF a f ∧ FSw w a f := by
  obtain ⟨cs, rfl, hsz⟩ := okWide_struct hs hv
  obtain ⟨fuel, hf⟩ := h
  obtain ⟨l⟩ := cs
  have hl : l.length = 7 := by
    have := hsz.trans hC
    simpa using this
  obtain ⟨y0, y1, y2, y3, y4, n, h0, h1, h2, h3, h4⟩ := trod_struct5 hs hf
  have ecs : (Value.agg ⟨l⟩).cells.toList = l := by simp [Value.cells]
  rw [ecs] at h0 h1 h2 h3 h4
  rw [o.1, z.1] at h0
  rw [o.2.1, z.2.1] at h1
  rw [o.2.2.1, z.2.2.1] at h2
  rw [o.2.2.2.1, z.2.2.2.1] at h3
  rw [o.2.2.2.2, z.2.2.2.2] at h4
  obtain ⟨c0, c1, c2, c3, c4, c5, c6, rfl⟩ := list7 hl
  simp only [List.drop_zero, List.drop_succ_cons, List.take_succ_cons, List.take_zero] at h0 h1 h2 h3 h4
  obtain ⟨A0, q0, zs0, e0, S0, L0⟩ := cells_slice (en := encI) u0 cei h0 (fun m cs x hx _ => by
    obtain ⟨n, hn, _⟩ := DataW.trod_int hei hx
    exact ⟨n, hn⟩)
  obtain ⟨gg, e1⟩ := trod_g3 hg og zg j0 j1 j2 h1 rfl
  obtain ⟨hyp, e2, _⟩ := DataW.trod_int i2 h2
  obtain ⟨A3, q3, zs3, e3, S3, L3⟩ := cells_slice (en := encP) u3 cep h3 (fun m cs x hx hl3 => trod_p3 hp op zp k0 k1 k2 hx hl3)
  obtain ⟨A4, q4, zs4, e4, S4, L4⟩ := cells_slice (en := encP) u4 cep h4 (fun m cs x hx hl3 => trod_p3 hp op zp k0 k1 k2 hx hl3)
  simp only [encG, List.cons.injEq, and_true] at e0 e1 e2 e3 e4
  obtain ⟨rfl, rfl, rfl⟩ := e1
  subst e0 e2 e3 e4
  exact ⟨⟨A0, q0, A3, q3, A4, q4⟩, ⟨zs0, gg, hyp, zs3, zs4⟩, rfl, S0, S3, S4, L0, L3, L4⟩
end
end Go.Proofs.Ytdenlafdbfbkoaa
