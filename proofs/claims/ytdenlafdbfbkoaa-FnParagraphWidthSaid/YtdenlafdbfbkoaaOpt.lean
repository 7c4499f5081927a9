/- The engine's rules: own slices beside other blocks: kept, written, appended to with whole slices. No program in sight. -/
import Derived.Test.YtdenlafdbfbkoaaOpr
namespace Go.Proofs.Ytdenlafdbfbkoaa
open Go.RowKit
set_option linter.unusedVariables false
set_option linter.unusedSimpArgs false

section
variable {α : Type} {base : Nat} {e : TypeId} {sz : Nat} {enc : α → List Value} {A : Option Addr} {c : Nat} {xs : List α}

theorem Ow.mvr {w w' : World} {b : Nat} (g : w.grownBy w' (some b)) (hlt : b < base) (h : Ow w base e sz enc A c xs) : Ow w' base e sz enc A c xs :=
  h.mv g (fun hh => by obtain ⟨a, ha, hb⟩ := Option.map_eq_some_iff.1 hh; have := (h.block a ha).1; omega)

theorem Fr.ap {r : Nat} {a w w' : World} (h : Fr r a w) (hO : Ow w base e sz enc A c xs) (hb : a.heap.size ≤ base) (k : w.grownBy w' (A.map (·.block))) : Fr r a w' := by
  cases A with
  | none => exact h.gr (Gr.grown k)
  | some ad => exact h.st k (Nat.le_trans hb (hO.block ad rfl).1)

theorem Ow.nil0 {w : World} (h : Ow w base e sz enc A c xs) : A = none → c = 0 := fun ha => by
  subst ha
  rcases h.row.2 with ⟨he, _⟩ | ⟨g, cap, cur, he, _⟩
  · simp only [Value.slice.injEq] at he; exact he.2.2
  · simp at he

theorem flat_len (hs : ∀ x, (enc x).length = sz) : ∀ xs : List α, (xs.flatMap enc).length = xs.length * sz
  | [] => by simp
  | x :: xs => by simp only [List.flatMap_cons, List.length_append, hs, flat_len hs xs, List.length_cons, Nat.add_mul]; omega

theorem Sl.flat {w : World} {ad : Addr} (h : Sl w (some ad) sz enc xs) (hs : ∀ x, (enc x).length = sz) : Cs w ad (xs.flatMap enc) := by
  intro j u hu
  have hj := (List.getElem?_eq_some_iff.1 hu).1
  rw [flat_len hs] at hj
  have hsz : 0 < sz := by
    rcases Nat.eq_zero_or_pos sz with h0 | h0
    · subst h0; omega
    · exact h0
  have hi : j / sz < xs.length := Nat.div_lt_of_lt_mul (by rw [Nat.mul_comm]; exact hj)
  have hr := Nat.mod_lt j hsz
  have hjj : j / sz * sz + j % sz = j := by rw [Nat.mul_comm]; exact Nat.div_add_mod j sz
  obtain ⟨x, hx⟩ : ∃ x, xs[j / sz]? = some x := ⟨_, List.getElem?_eq_getElem hi⟩
  have hf := flat_get hs xs (j / sz) (j % sz) x hx hr
  rw [hjj, hu] at hf
  have := h.el _ x hx (j % sz) u hf.symm
  simp only [ea, add_add, Option.getD_some, hjj] at this
  exact this

theorem splice_left {a b vl : List Value} {i : Nat} (h : i + vl.length ≤ a.length) : splice (a ++ b) i vl = splice a i vl ++ b := by
  unfold splice
  rw [List.take_append_of_le_length (by omega), List.drop_append_of_le_length h]
  simp

theorem splice_right {a b vl : List Value} {i : Nat} : splice (a ++ b) (a.length + i) vl = a ++ splice b i vl := by
  unfold splice
  rw [List.take_length_add_append, show a.length + i + vl.length = a.length + (i + vl.length) by omega, List.drop_length_add_append]
  simp

theorem splice_flat (hs : ∀ x, (enc x).length = sz) {f : Nat} {vl : List Value} {x y : α} (he : enc y = splice (enc x) f vl) (hf : f + vl.length ≤ sz) : ∀ (xs : List α) (k : Nat), xs[k]? = some x → splice (xs.flatMap enc) (k * sz + f) vl = (xs.set k y).flatMap enc
  | [], k, h => by simp at h
  | x0 :: xs, 0, h => by
    simp only [List.getElem?_cons_zero, Option.some.injEq] at h
    subst h
    simp only [List.flatMap_cons, List.set_cons_zero, Nat.zero_mul, Nat.zero_add]
    rw [splice_left (by rw [hs]; exact hf), he]
  | x0 :: xs, k + 1, h => by
    simp only [List.getElem?_cons_succ] at h
    simp only [List.flatMap_cons, List.set_cons_succ]
    rw [show (k + 1) * sz + f = (enc x0).length + (k * sz + f) by rw [hs, Nat.add_mul]; omega, splice_right, splice_flat hs he hf xs k h]

theorem take_splice {ds vl : List Value} {o n : Nat} (h : o + vl.length ≤ n) : (splice ds o vl).take n = splice (ds.take n) o vl := by
  unfold splice
  rw [List.take_take, show min o n = o by omega, List.drop_take]
  by_cases hl : o ≤ ds.length
  · have e1 : (List.take o ds ++ vl).length = o + vl.length := by simp; omega
    rw [List.take_append, e1, List.take_of_length_le (by omega)]
  · rw [List.drop_of_length_le (by omega)]
    simp only [List.append_nil, List.take_nil]
    rw [List.take_of_length_le (by simp; omega)]
end

section
variable {P : Program} {n : Nat} {s : St} {w : World} {d : Option Tmp} {ty : TypeId} {pos : String} {af : Array Edge} {g : Option (Nat × Bool)}

/-- A store into an element of an own slice. -/
theorem st_storeO {α : Type} {x y : Operand} {t e : TypeId} {m sz : Nat} [hz : KSz P t m] {base : Nat} {enc : α → List Value} {A : Option Addr} {c k f : Nat} {xs : List α} {v : Value} {vl : List Value} {K : Value → World → Prop} (x' y' : α)
    (hO : Ow w base e sz enc A c xs) (hx : ev s x = some (pp (ea A (k * sz)) f)) (hy : ev s y = some v) (hv : v.cells = vl.toArray) (hm : vl.length = m) (h1 : vl.all (·.oneCell') = true)
    (hx' : xs[k]? = some x') (he : enc y' = splice (enc x') f vl) (hs : ∀ x, (enc x).length = sz) (hble : Nat.ble (f + vl.length) sz = true)
    (h : Ow w base e sz enc A c xs → ∀ w', w.grownBy w' (A.map (·.block)) → w.heap.size = w'.heap.size → Ow w' base e sz enc A c (xs.set k y') → K undef w') :
    ST P n s w ⟨d, .store t x y, ty, pos, af, g⟩ K := fun a ha KA QA hk => by
  have hf : f + vl.length ≤ sz := Nat.le_of_ble_eq_true hble
  have hkl : k < xs.length := (List.getElem?_eq_some_iff.1 hx').1
  rcases hO.row.2 with ⟨_, h0⟩ | ⟨b, cap, cur, hsl, hbg, hg, hnc, hcm, hcs, htk⟩
  · omega
  · simp only [Value.slice.injEq] at hsl
    obtain ⟨rfl, _, rfl⟩ := hsl
    have hea : ea (some ⟨b, 0, none⟩) (k * sz) = ⟨b, k * sz, none⟩ := by unfold ea; simp [Addr.add]; try omega
    rw [hea] at hx
    have hroom : k * sz + f + vl.length ≤ xs.length * sz := by
      have : (k + 1) * sz ≤ xs.length * sz := Nat.mul_le_mul_right _ hkl
      rw [Nat.add_mul] at this
      omega
    have hcap : xs.length * sz ≤ c * sz := Nat.mul_le_mul_right _ hnc
    have hss := run_storeCells_at P b (k * sz + f) e vl 0 cur w hg (by rw [hcs]; omega) (by simpa using h1)
    simp only [Nat.add_zero] at hss
    have hr : (execOp a.eval ⟨d, .store t x y, ty, pos, af, g⟩).run P w = .ok .skip (w.setRow b (splice cur.toList (k * sz + f) vl).toArray) := by
      simp only [execOp, ha.ev hx, ha.ev hy, pp, add_mid]
      simp [Instr.storeAt, Instr.sureAddr, storeVar, hz.sz, hv, hm, hss, splice]
    have hlen : (splice cur.toList (k * sz + f) vl).length = c * sz := by
      unfold splice
      simp only [List.length_append, List.length_take, List.length_drop, Array.length_toList, hcs]
      omega
    unfold Oper.wp
    rw [hr]
    refine hk _ _ (h hO _ ⟨rfl, rfl, rfl, by simp [World.setRow], fun j _ hne => setRow_other w b j _ (fun e => hne (by rw [e]; rfl))⟩ (by simp [World.setRow]) ⟨?_⟩)
    refine ⟨by rw [flat_len hs, List.length_set], .inr ⟨b, c, _, by rw [List.length_set], hbg, setRow_heap w b _ _ e _ hg, by rw [List.length_set]; exact hnc, hcm, by simp only [List.size_toArray]; exact hlen, ?_⟩⟩
    rw [List.length_set]
    rw [take_splice hroom, htk, splice_flat hs he hf xs k hx']

theorem st_appendS {α : Type} {x y : Operand} {t e : TypeId} {sz bytes : Nat} {z : Value} [hk : KSl P t e] [hr : KRow P e sz bytes z] {base : Nat} {enc : α → List Value} {A B : Option Addr} {c m c2 k : Nat} {xs ys : List α} {K : Value → World → Prop}
    (hO : Ow w base e sz enc A c xs) (hx : ev s x = some (.slice A k c)) (hkk : k = xs.length) (hy : ev s y = some (.slice B m c2)) (hm : m = ys.length) (hS : Sl w B sz enc ys) (hn : B = none → c2 = 0)
    (hs : ∀ x, (enc x).length = sz) (h1 : ∀ x, (enc x).all (·.oneCell') = true) (hb1 : Nat.ble 1 bytes = true) (hb : (xs.length + ys.length) * bytes ≤ 140737488355328) (hbase : base ≤ w.heap.size)
    (h : Ow w base e sz enc A c xs → ∀ A' c' w', w.grownBy w' (A.map (·.block)) → w.heap.size ≤ w'.heap.size → (A'.map (·.block) = A.map (·.block) ∨ A'.map (·.block) = some w.heap.size) →
      Ow w' base e sz enc A' c' (xs ++ ys) → K (.slice A' (xs ++ ys).length c') w') :
    ST P n s w ⟨d, .call { callee := .builtin .append, args := #[x, y], argTypes := #[t, t] }, ty, pos, af, g⟩ K := by
  cases B with
  | some ad => exact st_append hO hx hkk hy hm (hS.flat hs) rfl hs h1 hb1 hb hbase (fun A' c' w' h1 h2 h3 _ h5 => h hO A' c' w' h1 h2 h3 h5)
  | none =>
    have hy0 : ys = [] := by
      rcases Nat.eq_zero_or_pos ys.length with h0 | h0
      · exact List.length_eq_zero_iff.1 h0
      · have := hS.nn h0; simp at this
    subst hy0
    have hc := hn rfl
    simp only [List.length_nil] at hm
    subst hm
    subst hc
    subst hkk
    intro a ha KA QA hK
    obtain ⟨i, hi, hz0, hz1, hz2⟩ := hr.h
    have hrun := run_append_owned_none (P := P) w base t ty e i sz hk.h hi (.slice A xs.length c) xs.length (xs.flatMap enc) hO.row
    have hrun' : (execOp a.eval ⟨d, .call { callee := .builtin .append, args := #[x, y], argTypes := #[t, t] }, ty, pos, af, g⟩).run P w = .ok (.value (.slice A xs.length c)) w := by
      simp only [execOp, resolve, List.map_toArray, List.map_cons, List.map_nil, ha.ev hx, ha.ev hy, Sem.run_bind, Sem.run_pure, Result.andThen_ok, invoke, builtin, hrun]
    unfold Oper.wp
    rw [hrun']
    have := h hO A c w ⟨rfl, rfl, rfl, Nat.le_refl _, fun _ _ _ => rfl⟩ (Nat.le_refl _) (.inl rfl) (by rw [List.append_nil]; exact hO)
    rw [List.append_nil] at this
    exact hK _ _ this

theorem st_appendH {α : Type} {x y : Operand} {t e : TypeId} {sz bytes : Nat} {z : Value} [hk : KSl P t e] [hr : KRow P e sz bytes z] {base : Nat} {enc : α → List Value} {A : Option Addr} {c m c2 k : Nat} {ad : Addr} {xs ys : List α} {news : List Value} {K : Value → World → Prop}
    (hO : Ow w base e sz enc A c xs) (hx : ev s x = some (.slice A k c)) (hkk : k = xs.length) (hy : ev s y = some (.slice (some ad) m c2)) (hm : m = ys.length) (hC : Cs w ad news) (hn : news = ys.flatMap enc)
    (hs : ∀ x, (enc x).length = sz) (h1 : ∀ x, (enc x).all (·.oneCell') = true) (hb1 : Nat.ble 1 bytes = true) (hb : (xs.length + ys.length) * bytes ≤ 140737488355328) (hbase : base ≤ w.heap.size)
    (h : Ow w base e sz enc A c xs → ∀ A' c' w', w.grownBy w' (A.map (·.block)) → w.heap.size ≤ w'.heap.size → (A'.map (·.block) = A.map (·.block) ∨ A'.map (·.block) = some w.heap.size) → (0 < m → A'.isSome = true) →
      Ow w' base e sz enc A' c' (xs ++ ys) → K (.slice A' (xs ++ ys).length c') w') :
    ST P n s w ⟨d, .call { callee := .builtin .append, args := #[x, y], argTypes := #[t, t] }, ty, pos, af, g⟩ K := st_append hO hx hkk hy hm hC hn hs h1 hb1 hb hbase (h hO)

theorem q_sliceToZ {x hi : Operand} {t e : TypeId} {sz : Nat} [hk : KSl P t e] [hz : KSz P e sz] {A : Option Addr} {m c : Nat} {j : Int} {k2 : IntKind}
    (hx : ev s x = some (.slice A m c)) (hh : ev s hi = some (.int k2 j)) (h0 : 0 ≤ j) (h2 : j ≤ (c : Int)) :
    QV P n s w ⟨d, .slice t x none (some hi) none, ty, pos, af, g⟩ (.slice (subA A c 0 sz) j.toNat c) := by
  obtain ⟨b, rfl⟩ := Int.eq_ofNat_of_zero_le h0
  exact q_sliceTo (P := P) (n := n) (s := s) (w := w) (d := d) (ty := ty) (pos := pos) (af := af) (g := g) (t := t) hx hh (show b ≤ c by omega)

theorem q_sliceFromZ {x lo : Operand} {t e : TypeId} {sz : Nat} [hk : KSl P t e] [hz : KSz P e sz] {A : Option Addr} {m c : Nat} {i : Int} {k1 : IntKind}
    (hx : ev s x = some (.slice A m c)) (hl : ev s lo = some (.int k1 i)) (h0 : 0 ≤ i) (h1 : i ≤ (m : Int)) :
    QV P n s w ⟨d, .slice t x (some lo) none none, ty, pos, af, g⟩ (.slice (subA A c i.toNat sz) (m - i.toNat) (c - i.toNat)) := by
  obtain ⟨a, rfl⟩ := Int.eq_ofNat_of_zero_le h0
  exact q_sliceFrom (P := P) (n := n) (s := s) (w := w) (d := d) (ty := ty) (pos := pos) (af := af) (g := g) (t := t) hx hl (show a ≤ m by omega)

end
theorem Ow.sbTo {α : Type} {w : World} {base : Nat} {e : TypeId} {sz : Nat} {enc : α → List Value} {A : Option Addr} {c : Nat} {xs : List α} (h : Ow w base e sz enc A c xs) (hs : ∀ x, (enc x).length = sz) {j : Nat} (hj : j ≤ xs.length) : SB w base w.heap.size (subA A c 0 sz) sz enc (xs.take j) := by
  refine ⟨(h.sl hs).sub (l := 0) h.le hj, fun a hn ha => ?_⟩
  unfold subA at ha
  split at ha
  · exact h.block a ha
  · obtain ⟨a0, h0, rfl⟩ := Option.map_eq_some_iff.1 ha
    rw [add_block]
    exact h.block a0 h0

theorem SB.hi {α : Type} {w : World} {lo hi hi' : Nat} {A : Option Addr} {sz : Nat} {enc : α → List Value} {xs : List α} (h : SB w lo hi A sz enc xs) (hle : hi ≤ hi') : SB w lo hi' A sz enc xs :=
  ⟨h.sl, fun a hn ha => ⟨(h.bd a hn ha).1, Nat.lt_of_lt_of_le (h.bd a hn ha).2 hle⟩⟩

theorem SB.lo {α : Type} {w : World} {lo lo' hi : Nat} {A : Option Addr} {sz : Nat} {enc : α → List Value} {xs : List α} (h : SB w lo hi A sz enc xs) (hle : lo' ≤ lo) : SB w lo' hi A sz enc xs :=
  ⟨h.sl, fun a hn ha => ⟨Nat.le_trans hle (h.bd a hn ha).1, (h.bd a hn ha).2⟩⟩

theorem Ow.el {α : Type} {w : World} {base : Nat} {e : TypeId} {sz : Nat} {enc : α → List Value} {A : Option Addr} {c : Nat} {xs : List α} (h : Ow w base e sz enc A c xs) (hs : ∀ x, (enc x).length = sz) {i : Nat} {x : α} (hx : xs[i]? = some x) : Cs w (ea A (i * sz)) (enc x) ∧ base ≤ (ea A (i * sz)).block := by
  refine ⟨(h.sl hs).el i x hx, ?_⟩
  have hn := (h.sl hs).nn (Nat.lt_of_le_of_lt (Nat.zero_le _) (List.getElem?_eq_some_iff.1 hx).1)
  cases A with
  | none => simp at hn
  | some a => rw [ea_block rfl]; exact (h.block a rfl).1

section
variable {P : Program} {n : Nat} {s : St} {w : World} {Q : Exit → St → World → Prop}
theorem rv5 {fn : Func} {t u q r o : Tmp} {v x y z k : Value} (h : fn.results = #[.tmp t, .tmp u, .tmp q, .tmp r, .tmp o]) (hv : lk s t = some v) (hx : lk s u = some x) (hy : lk s q = some y) (hz : lk s r = some z) (hk : lk s o = some k) : RV P n fn s w (.tuple #[v, x, y, z, k]) := fun a ha => by
  simp [results, h, ha.at2 hv, ha.at2 hx, ha.at2 hy, ha.at2 hz, ha.at2 hk]
theorem W_loop5 {α β γ δ ε : Type} (S : α → β → γ → δ → ε → St) (F : α → β → γ → δ → ε → World → Prop) (m : α → β → γ → δ → ε → Nat) {c : Code} (a0 : α) (b0 : β) (c0 : γ) (d0 : δ) (e0 : ε) (hs : Subs s (S a0 b0 c0 d0 e0)) (h0 : F a0 b0 c0 d0 e0 w)
    (round : ∀ a b x y z w', F a b x y z w' → W P n c (Th (fun s' w'' => ∃ a' b' x' y' z', m a' b' x' y' z' < m a b x y z ∧ F a' b' x' y' z' w'' ∧ Subs s' (S a' b' x' y' z')) Q) (S a b x y z) w') : W P n (.loop c) Q s w :=
  W_loop (fun p : α × β × γ × δ × ε => S p.1 p.2.1 p.2.2.1 p.2.2.2.1 p.2.2.2.2) (fun p => F p.1 p.2.1 p.2.2.1 p.2.2.2.1 p.2.2.2.2) (fun p => m p.1 p.2.1 p.2.2.1 p.2.2.2.1 p.2.2.2.2) (a0, b0, c0, d0, e0) hs h0 fun p w' h => W_mono (round p.1 p.2.1 p.2.2.1 p.2.2.2.1 p.2.2.2.2 w' h) fun e s' w'' hq => by
    cases e with
    | normal => obtain ⟨a', b', x', y', z', h1⟩ := hq; exact ⟨(a', b', x', y', z'), h1⟩
    | ret => exact hq
    | exit i => exact hq
    | goto l => exact hq
    | panic c => exact hq
    | outgrown => exact hq
end
/-! ### Closers: what follows from the facts at hand -/
theorem Gr.A {a b : World} (h : Gr a b := by repeat (first | exact Gr.refl _ | assumption | (apply Gr.trans; rotate_left; assumption) | (apply Gr.st; rotate_left; assumption; focus omega))) : Gr a b := h
theorem Bx.A {w : World} {b : Nat} {cs : List Value} (h : Bx w b cs := by repeat (first | assumption | (apply Bx.gr; assumption) | (apply Bx.mv; assumption; focus omega))) : Bx w b cs := h
theorem Cs.A {w : World} {a : Addr} {cs : List Value} (h : Cs w a cs := by repeat (first | assumption | exact Bx.cs (by assumption) | (apply Cs.gr; assumption) | (apply Cs.mv; assumption; focus (first | assumption | ((try dsimp only); omega))))) : Cs w a cs := h
theorem Fr.A {r : Nat} {a b : World} (h : Fr r a b := by repeat (first | exact Fr.refl _ _ | assumption | (apply Fr.trans; rotate_left; assumption) | (apply Fr.gr; rotate_left; assumption) | (apply Fr.st; rotate_left; assumption; focus omega))) : Fr r a b := h
theorem Ow.A {α : Type} {w : World} {base : Nat} {e : TypeId} {sz : Nat} {enc : α → List Value} {A : Option Addr} {c : Nat} {xs : List α} (h : Ow w base e sz enc A c xs := by repeat (first | assumption | (apply Ow.gr; assumption) | (apply Ow.mvr; assumption; focus omega))) : Ow w base e sz enc A c xs := h
theorem SB.A {α : Type} {w : World} {lo hi : Nat} {A : Option Addr} {sz : Nat} {enc : α → List Value} {xs : List α} (h : SB w lo hi A sz enc xs := by (repeat (first | assumption | (apply SB.gr; assumption) | (apply SB.mv; assumption; rotate_left))); all_goals omega) : SB w lo hi A sz enc xs := h
theorem Wr.A {w : World} {B : Option Addr} {n sz b : Nat} {cs : List Value} (h : Wr w B n sz b cs := by (repeat (first | assumption | (apply Wr.gr; assumption) | (apply Wr.mv; assumption; rotate_left))); all_goals omega) : Wr w B n sz b cs := h

end Go.Proofs.Ytdenlafdbfbkoaa
