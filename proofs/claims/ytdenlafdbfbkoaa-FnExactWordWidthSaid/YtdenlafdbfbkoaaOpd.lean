/- The engine's rules for a region that draws its order: what only computes or reads is taken first; a call, a store, a new block in its turn. No program in sight. -/
import Derived.Test.YtdenlafdbfbkoaaOpm
namespace Go.Proofs.Ytdenlafdbfbkoaa
open Go.RowKit
set_option linter.unusedVariables false
set_option linter.unusedSimpArgs false

def WH (P : Program) (n : Nat) (ops : Array Oper) (Q : Exit → St → World → Prop) (S : World → Prop) (fuel : Nat) (listed : Array Bool) (s : St) (w : World) : Prop :=
  ∀ a, Rep n s a → wpAnyH P .any ops (Qa n Q) S fuel listed a w

def nth {α : Type} : List α → Nat → Option α
  | [], _ => none
  | x :: _, 0 => some x
  | _ :: r, i + 1 => nth r i

theorem nth_get {α : Type} : ∀ (l : List α) (i : Nat), l[i]? = nth l i
  | [], i => by simp [nth]
  | x :: r, 0 => by simp [nth]
  | x :: r, i + 1 => by simp only [List.getElem?_cons_succ, nth]; exact nth_get r i

section
variable {P : Program} {n : Nat} {s : St} {w : World} {Q : Exit → St → World → Prop} {l : List Oper} {S : World → Prop} {fuel : Nat} {listed : Array Bool}

theorem wh_begin {id : Nat} (hm : P.follows .mixedOrders = true)
    (h : ∀ w1, Gr w w1 → w.heap.size = w1.heap.size → WH P n l.toArray Q (Gr w1) l.toArray.size (Array.replicate l.toArray.size false) s w1) : W P n (.region id l.toArray true) Q s w := fun a ha =>
  wp_region_held hm (h w.drew (Gr.drew w) rfl a ha)

theorem wh_take (i : Nat) {o : Oper} {v : Value} (hi : nth l i = some o) (hs : Region.noSelect l.toArray = true) (hf : Region.free .any l.toArray listed i = true) (hr : (Region.ready .any l.toArray listed).contains i = true)
    (hg : gd l.toArray s o.guard = some true) (hd : dOk n o.dst = true) (hq : ∀ w', S w' → QV P n s w' o v) (hS : S w)
    (h : WH P n l.toArray Q S fuel (listed.setIfInBounds i true) (pt o.dst v s) w) : WH P n l.toArray Q S (fuel + 1) listed s w := fun a ha =>
  wpAnyH_take (by rw [List.getElem?_toArray, nth_get]; exact hi) hs hf hr (fun _ _ _ hh => hh) (.inl ⟨ha.wanted hg, fun w' hw => hq w' hw a ha⟩) hS (h _ (ha.put hd v))

theorem wh_skip (i : Nat) {o : Oper} (hi : nth l i = some o) (hs : Region.noSelect l.toArray = true) (hf : Region.free .any l.toArray listed i = true) (hr : (Region.ready .any l.toArray listed).contains i = true)
    (hg : gd l.toArray s o.guard = some false) (hd : dOk n o.dst = true) (hS : S w)
    (h : WH P n l.toArray Q S fuel (listed.setIfInBounds i true) (pt o.dst undef s) w) : WH P n l.toArray Q S (fuel + 1) listed s w := fun a ha =>
  wpAnyH_take (by rw [List.getElem?_toArray, nth_get]; exact hi) hs hf hr (fun _ _ _ hh => hh) (.inr ⟨ha.wanted hg, rfl⟩) hS (h _ (ha.put hd undef))

theorem wh_do (i : Nat) {o : Oper} (hi : nth l i = some o) (hr : Region.ready .any l.toArray listed = [i])
    (hg : gd l.toArray s o.guard = some true) (hd : dOk n o.dst = true) (hq : ST P n s w o (fun v w' => S w' ∧ WH P n l.toArray Q S fuel (listed.setIfInBounds i true) (pt o.dst v s) w')) :
    WH P n l.toArray Q S (fuel + 1) listed s w := fun a ha => by
  refine wpAnyH_all hr (by simp) fun j hj => ?_
  obtain rfl : j = i := by simpa using hj
  unfold wpOp
  have hi' : l.toArray[j]? = some o := by rw [List.getElem?_toArray, nth_get]; exact hi
  simp only [hi']
  rw [if_pos (ha.wanted hg)]
  exact .inl (hq a ha _ _ fun v w' hk => ⟨hk.1, hk.2 _ (ha.put hd v)⟩)

theorem wh_two (i k : Nat) {o o2 : Oper} (hi : nth l i = some o) (hi2 : nth l k = some o2) (hr : Region.ready .any l.toArray listed = [i, k])
    (hg : gd l.toArray s o.guard = some true) (hg2 : gd l.toArray s o2.guard = some true) (hd : dOk n o.dst = true) (hd2 : dOk n o2.dst = true)
    (hq : ST P n s w o (fun v w' => S w' ∧ WH P n l.toArray Q S fuel (listed.setIfInBounds i true) (pt o.dst v s) w'))
    (hq2 : ST P n s w o2 (fun v w' => S w' ∧ WH P n l.toArray Q S fuel (listed.setIfInBounds k true) (pt o2.dst v s) w')) :
    WH P n l.toArray Q S (fuel + 1) listed s w := fun a ha => by
  refine wpAnyH_all hr (by simp) fun j hj => ?_
  have hj' : j = i ∨ j = k := by simpa using hj
  rcases hj' with rfl | rfl
  · unfold wpOp
    have hi' : l.toArray[j]? = some o := by rw [List.getElem?_toArray, nth_get]; exact hi
    simp only [hi']
    rw [if_pos (ha.wanted hg)]
    exact .inl (hq a ha _ _ fun v w' hk => ⟨hk.1, hk.2 _ (ha.put hd v)⟩)
  · unfold wpOp
    have hi' : l.toArray[j]? = some o2 := by rw [List.getElem?_toArray, nth_get]; exact hi2
    simp only [hi']
    rw [if_pos (ha.wanted hg2)]
    exact .inl (hq2 a ha _ _ fun v w' hk => ⟨hk.1, hk.2 _ (ha.put hd2 v)⟩)

/-- A piece of code behind which the ways meet again. -/
theorem W_join {c : Code} (J : St → World → Prop) (h : W P n c (fun e s' w' => e = .normal ∧ J s' w') s w) (hJ : ∀ s' w', J s' w' → Q .normal s' w') : W P n c Q s w := fun a ha =>
  wp_mono (h a ha) fun e a' w' hh => by
    cases e with
    | normal => obtain ⟨s', h1, _, h2⟩ := hh; exact ⟨s', h1, hJ _ _ h2⟩
    | ret => obtain ⟨s', h1, h2, _⟩ := hh; cases h2
    | exit i => obtain ⟨s', h1, h2, _⟩ := hh; cases h2
    | goto i => obtain ⟨s', h1, h2, _⟩ := hh; cases h2
    | panic i => exact hh
    | outgrown => exact hh

theorem wh_done (hr : Region.ready .any l.toArray listed = []) (h : Q .normal s w) : WH P n l.toArray Q S fuel listed s w := fun a ha =>
  wpAnyH_done hr ⟨s, ha, h⟩ fuel

/-- A region's end under a name of its own: for where several ways meet again. -/
theorem W_mono {c : Code} {Q' : Exit → St → World → Prop} (h : W P n c Q' s w) (hq : ∀ e s w, Q' e s w → Q e s w) : W P n c Q s w := fun a ha =>
  wp_mono (h a ha) fun e a' w' hh => by
    cases e with
    | normal => obtain ⟨s', h1, h2⟩ := hh; exact ⟨s', h1, hq _ _ _ h2⟩
    | ret => obtain ⟨s', h1, h2⟩ := hh; exact ⟨s', h1, hq _ _ _ h2⟩
    | exit i => obtain ⟨s', h1, h2⟩ := hh; exact ⟨s', h1, hq _ _ _ h2⟩
    | goto i => obtain ⟨s', h1, h2⟩ := hh; exact ⟨s', h1, hq _ _ _ h2⟩
    | panic i => exact hh
    | outgrown => exact hh

theorem W_sub {c : Code} {s2 : St} (h : W P n c Q s2 w) (hs : Subs s s2) : W P n c Q s w := fun a ha => h a (ha.sub hs)

end

/-- A region that draws its order, with the order in which its operations are to be taken. -/
inductive Sc
  | e
  | q (i : Nat) (t : Sc)
  | d (i : Nat) (t : Sc)
  | b (i k : Nat) (t u : Sc)
  | c (i k m : Nat) (t u v : Sc)

def WI (_ : Sc) (P : Program) (n : Nat) (ops : Array Oper) (Q : Exit → St → World → Prop) (S : World → Prop) (fuel : Nat) (listed : Array Bool) (s : St) (w : World) : Prop :=
  WH P n ops Q S fuel listed s w

def okq (l : List Oper) (listed : Array Bool) (i : Nat) : Bool :=
  Region.noSelect l.toArray && (Region.free .any l.toArray listed i && (Region.ready .any l.toArray listed).contains i)
theorem okq_spec {l : List Oper} {listed : Array Bool} {i : Nat} (h : okq l listed i = true) : Region.noSelect l.toArray = true ∧ Region.free .any l.toArray listed i = true ∧ (Region.ready .any l.toArray listed).contains i = true := by
  simpa only [okq, Bool.and_eq_true] using h

section
variable {P : Program} {n : Nat} {s : St} {w : World} {Q : Exit → St → World → Prop} {l : List Oper} {S : World → Prop} {fuel : Nat} {listed : Array Bool} {t u v : Sc} {i k m : Nat} {o o2 o3 : Oper}

theorem wi_begin {id : Nat} (t : Sc) (hm : P.follows .mixedOrders = true)
    (h : ∀ w1, Gr w w1 → w.heap.size = w1.heap.size → WI t P n l.toArray Q (Gr w1) l.toArray.size (Array.replicate l.toArray.size false) s w1) : W P n (.region id l.toArray true) Q s w := wh_begin hm h

theorem wq {v : Value} (hi : nth l i = some o) (hk : okq l listed i = true) (hg : gd l.toArray s o.guard = some true) (hd : dOk n o.dst = true) (hq : ∀ w', S w' → QV P n s w' o v) (hS : S w)
    (h : WI t P n l.toArray Q S fuel (listed.setIfInBounds i true) (pt o.dst v s) w) : WI (.q i t) P n l.toArray Q S (fuel + 1) listed s w :=
  wh_take i hi (okq_spec hk).1 (okq_spec hk).2.1 (okq_spec hk).2.2 hg hd hq hS h

theorem wz (hi : nth l i = some o) (hk : okq l listed i = true) (hg : gd l.toArray s o.guard = some false) (hd : dOk n o.dst = true) (hS : S w)
    (h : WI t P n l.toArray Q S fuel (listed.setIfInBounds i true) (pt o.dst undef s) w) : WI (.q i t) P n l.toArray Q S (fuel + 1) listed s w :=
  wh_skip i hi (okq_spec hk).1 (okq_spec hk).2.1 (okq_spec hk).2.2 hg hd hS h

theorem wy (hi : nth l i = some o) (hk : okq l listed i = true) (hg : gd l.toArray s o.guard = some false) (hd : dOk n o.dst = true) (hS : S w)
    (h : WI t P n l.toArray Q S fuel (listed.setIfInBounds i true) (pt o.dst undef s) w) : WI (.d i t) P n l.toArray Q S (fuel + 1) listed s w :=
  wh_skip i hi (okq_spec hk).1 (okq_spec hk).2.1 (okq_spec hk).2.2 hg hd hS h

theorem wd (hi : nth l i = some o) (hr : Region.ready .any l.toArray listed = [i])
    (hg : gd l.toArray s o.guard = some true) (hd : dOk n o.dst = true) (hq : ST P n s w o (fun v w' => S w' ∧ WI t P n l.toArray Q S fuel (listed.setIfInBounds i true) (pt o.dst v s) w')) :
    WI (.d i t) P n l.toArray Q S (fuel + 1) listed s w := wh_do i hi hr hg hd hq

theorem wb (hi : nth l i = some o) (hi2 : nth l k = some o2) (hr : Region.ready .any l.toArray listed = [i, k])
    (hg : gd l.toArray s o.guard = some true) (hg2 : gd l.toArray s o2.guard = some true) (hd : dOk n o.dst = true) (hd2 : dOk n o2.dst = true)
    (hq : ST P n s w o (fun v w' => S w' ∧ WI t P n l.toArray Q S fuel (listed.setIfInBounds i true) (pt o.dst v s) w'))
    (hq2 : ST P n s w o2 (fun v w' => S w' ∧ WI u P n l.toArray Q S fuel (listed.setIfInBounds k true) (pt o2.dst v s) w')) :
    WI (.b i k t u) P n l.toArray Q S (fuel + 1) listed s w := wh_two i k hi hi2 hr hg hg2 hd hd2 hq hq2

theorem wo (hr : Region.ready .any l.toArray listed = []) (h : Q .normal s w) : WI .e P n l.toArray Q S fuel listed s w := wh_done hr h

theorem wa {A : Prop} {ops : Array Oper} (h : A) (g : WI t P n ops Q S fuel listed s w) : A ∧ WI t P n ops Q S fuel listed s w := ⟨h, g⟩
end
attribute [irreducible] WI
end Go.Proofs.Ytdenlafdbfbkoaa
