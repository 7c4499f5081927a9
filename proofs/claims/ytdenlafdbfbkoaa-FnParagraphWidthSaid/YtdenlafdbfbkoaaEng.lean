/- A small logic for walks: the frame as a list of known slots, the world as a letter. No program in sight. -/
import Derived.WalkKit
import Derived.WalkSpells
import Derived.Lib.Hide
import Derived.OrdersHeld
import Derived.Deep.QuietTactic
import Derived.BigQuiet
namespace Go.Proofs.Ytdenlafdbfbkoaa
open Go.RowKit
set_option linter.unusedVariables false
set_option linter.unusedSimpArgs false

/-! ### The known slots -/
abbrev St := List (Nat × Value)

def lk : St → Nat → Option Value
  | [], _ => none
  | (k, v) :: s, t => bif Nat.beq k t then some v else lk s t

structure Rep (n : Nat) (s : St) (a : Act) : Prop where
  defers : a.defers = []
  size : a.tmps.size = n
  at_ : ∀ t v, lk s t = some v → a.tmps.getD t undef = v

def ev (s : St) : Operand → Option Value
  | .tmp t => lk s t
  | .const v => some v
  | .global g => some (.pointer (some ⟨g, 0, none⟩))
  | .func f => some (.func (.func f) #[] #[])

theorem Rep.ev {n : Nat} {s : St} {a : Act} (h : Rep n s a) {x : Operand} {v : Value} (hx : ev s x = some v) : a.eval x = v := by
  cases x with
  | tmp t => exact h.at_ t v hx
  | const u => simpa [Go.Proofs.Ytdenlafdbfbkoaa.ev, Act.eval] using hx
  | global g => simpa [Go.Proofs.Ytdenlafdbfbkoaa.ev, Act.eval] using hx
  | func f => simpa [Go.Proofs.Ytdenlafdbfbkoaa.ev, Act.eval] using hx

def pt : Option Nat → Value → St → St
  | some d, v, s => (d, v) :: s
  | none, _, s => s

def dOk (n : Nat) : Option Nat → Bool
  | some d => Nat.blt d n
  | none => true

theorem Rep.put {n : Nat} {s : St} {a : Act} (h : Rep n s a) {d : Option Nat} (hd : dOk n d = true) (v : Value) : Rep n (pt d v s) (a.put d v) := by
  cases d with
  | none => exact h
  | some d =>
    have hlt : d < n := by simpa [dOk, Nat.blt_eq] using hd
    refine ⟨h.defers, by simp [Act.put, h.size], fun t u hu => ?_⟩
    simp only [pt, lk] at hu
    by_cases e : d = t
    · subst e
      simp at hu
      subst hu
      simp [Act.put, h.size, hlt]
    · have : Nat.beq d t = false := by
        cases hb : Nat.beq d t with
        | false => rfl
        | true => exact absurd (Nat.eq_of_beq_eq_true hb) e
      rw [this] at hu
      have := h.at_ t u hu
      simp only [Act.put]
      rw [Array.getD_eq_getD_getElem?] at this ⊢
      rw [Array.getElem?_setIfInBounds_ne e]
      exact this

/-- All that the second list knows the first knows. -/
def Subs (s : St) : St → Prop
  | [] => True
  | (t, v) :: r => lk s t = some v ∧ Subs s r

theorem Subs.lk {s : St} : ∀ {r : St}, Subs s r → ∀ t v, lk r t = some v → lk s t = some v
  | [], _, t, v, h => by simp [Go.Proofs.Ytdenlafdbfbkoaa.lk] at h
  | (k, u) :: r, hs, t, v, h => by
    simp only [Go.Proofs.Ytdenlafdbfbkoaa.lk] at h
    cases hb : Nat.beq k t
    · rw [hb] at h; exact Subs.lk hs.2 t v h
    · rw [hb] at h
      have : k = t := Nat.eq_of_beq_eq_true hb
      subst this
      simp at h
      subst h
      exact hs.1

theorem Rep.sub {n : Nat} {s r : St} {a : Act} (h : Rep n s a) (hs : Subs s r) : Rep n r a :=
  ⟨h.defers, h.size, fun t v hv => h.at_ t v (hs.lk t v hv)⟩

/-! ### The judgements -/
def Qa (n : Nat) (Q : Exit → St → World → Prop) : Exit → Act → World → Prop
  | .panic _, _, _ => False
  | .outgrown, _, _ => False
  | .normal, a, w => ∃ s, Rep n s a ∧ Q .normal s w
  | .ret, a, w => ∃ s, Rep n s a ∧ Q .ret s w
  | .exit i, a, w => ∃ s, Rep n s a ∧ Q (.exit i) s w
  | .goto l, a, w => ∃ s, Rep n s a ∧ Q (.goto l) s w

def W (P : Program) (n : Nat) (c : Code) (Q : Exit → St → World → Prop) (s : St) (w : World) : Prop :=
  ∀ a, Rep n s a → c.wp P (Qa n Q) a w

def Th (K : St → World → Prop) (Q : Exit → St → World → Prop) : Exit → St → World → Prop
  | .normal, s, w => K s w
  | e, s, w => Q e s w

def Bl (id : Nat) (Q : Exit → St → World → Prop) : Exit → St → World → Prop
  | .exit i, s, w => if i = id then Q .normal s w else Q (.exit i) s w
  | e, s, w => Q e s w

def WL (P : Program) (n : Nat) (ops : Array Oper) (Q : Exit → St → World → Prop) (l : List Oper) (s : St) (w : World) : Prop :=
  ∀ a, Rep n s a → wpList P ops (Qa n Q) l a w

section
variable {P : Program} {n : Nat} {Q : Exit → St → World → Prop} {s : St} {w : World}

theorem Th_normal {K : St → World → Prop} (h : K s w) : Th K Q .normal s w := h
theorem Th_ret {K : St → World → Prop} (h : Q .ret s w) : Th K Q .ret s w := h
theorem Th_exit {K : St → World → Prop} {i : Nat} (h : Q (.exit i) s w) : Th K Q (.exit i) s w := h
theorem Bl_normal {i : Nat} (h : Q .normal s w) : Bl i Q .normal s w := h
theorem Bl_ret {i : Nat} (h : Q .ret s w) : Bl i Q .ret s w := h
theorem Bl_exit {i j : Nat} (e : j = i) (h : Q .normal s w) : Bl i Q (.exit j) s w := by simp only [Bl, if_pos e]; exact h
theorem Bl_pass {i j : Nat} (e : Nat.beq j i = false) (h : Q (.exit j) s w) : Bl i Q (.exit j) s w := by
  have : ¬ j = i := fun h => by subst h; simp at e
  simp only [Bl, if_neg this]; exact h

theorem W_seq {x y : Code} (h : W P n x (Th (fun s' w' => W P n y Q s' w') Q) s w) : W P n (.seq x y) Q s w := fun a ha =>
  wp_seq (wp_mono (h a ha) fun e a' w' hq => by
    cases e with
    | normal => obtain ⟨s', hr, hk⟩ := hq; exact hk a' hr
    | panic c => exact hq
    | outgrown => exact hq
    | ret => exact hq
    | exit i => exact hq
    | goto l => exact hq)
theorem W_skip (h : Q .normal s w) : W P n .skip Q s w := fun a ha => wp_skip ⟨s, ha, h⟩
theorem W_exit {i : Nat} (h : Q (.exit i) s w) : W P n (.exit i) Q s w := fun a ha => wp_exit ⟨s, ha, h⟩
theorem W_ret (h : Q .ret s w) : W P n .ret Q s w := fun a ha => wp_ret ⟨s, ha, h⟩
theorem W_block {i : Nat} {c : Code} (h : W P n c (Bl i Q) s w) : W P n (.block i c) Q s w := fun a ha =>
  wp_block (wp_mono (h a ha) fun e a' w' hq => by
    cases e with
    | normal => exact hq
    | panic c => exact hq
    | outgrown => exact hq
    | ret => exact hq
    | goto l => exact hq
    | exit j =>
      obtain ⟨s', hr, hk⟩ := hq
      simp only [Bl] at hk
      simp only [Exit.inBlock]
      split at hk
      · rename_i e; rw [if_pos e]; exact ⟨s', hr, hk⟩
      · rename_i e; rw [if_neg e]; exact ⟨s', hr, hk⟩)
theorem W_condT {c : Operand} {x y : Code} (hc : ev s c = some (.bool true)) (h : W P n x Q s w) : W P n (.cond c x y) Q s w := fun a ha =>
  wp_cond_true (ha.ev hc) (h a ha)
theorem W_condF {c : Operand} {x y : Code} (hc : ev s c = some (.bool false)) (h : W P n y Q s w) : W P n (.cond c x y) Q s w := fun a ha =>
  wp_cond_false (ha.ev hc) (h a ha)
theorem W_condB {c : Operand} {x y : Code} {b : Bool} (hc : ev s c = some (.bool b)) (ht : b = true → W P n x Q s w) (hf : b = false → W P n y Q s w) : W P n (.cond c x y) Q s w := fun a ha =>
  wp_cond_split (ha.ev hc) (fun e => ht e a ha) (fun e => hf e a ha)

/-- A loop by a ghost: at every round's head the slots are 'S g' for some g of which 'F g' holds of the world; each round lowers 'm'. -/
theorem W_loop {γ : Type} (S : γ → St) (F : γ → World → Prop) (m : γ → Nat) {c : Code} (g0 : γ) (hs : Subs s (S g0)) (h0 : F g0 w)
    (round : ∀ g w', F g w' → W P n c (Th (fun s' w'' => ∃ g', m g' < m g ∧ F g' w'' ∧ Subs s' (S g')) Q) (S g) w') : W P n (.loop c) Q s w := by
  intro a ha b k cs
  have key : ∀ N g a w, m g = N → F g w → Rep n (S g) a →
      ∃ e a' w', Qa n Q e a' w' ∧ Arrives P (lone (b.at a (.code c :: .inLoop c :: k)) cs w) b k cs e a' w' := by
    intro N
    induction N using Nat.strongRecOn with
    | _ N ih =>
      intro g a w hN hF hR
      obtain ⟨e, a₁, w₁, hq, harr⟩ := round g w hF a hR b (.inLoop c :: k) cs
      cases e with
      | normal =>
        obtain ⟨s', hr, g', hlt, hF', hS'⟩ := hq
        obtain ⟨e₂, a₂, w₂, hq₂, harr₂⟩ := ih (m g') (hN ▸ hlt) g' a₁ w₁ rfl hF' (hr.sub hS')
        exact ⟨e₂, a₂, w₂, hq₂, .of_steps (Steps.trans harr (.one step_inLoop)) harr₂⟩
      | exit id => exact ⟨.exit id, a₁, w₁, (show Qa n Q (.exit id) a₁ w₁ from hq), .pass (x := .inLoop c) rfl (fun _ _ => .inl (by simp)) harr⟩
      | goto l => exact ⟨.goto l, a₁, w₁, (show Qa n Q (.goto l) a₁ w₁ from hq), .pass (x := .inLoop c) rfl (fun _ _ => .inl (by simp)) harr⟩
      | ret => exact ⟨.ret, a₁, w₁, (show Qa n Q (.ret) a₁ w₁ from hq), .pass (x := .inLoop c) rfl (fun _ _ => .inl (by simp)) harr⟩
      | panic ch => exact hq.elim
      | outgrown => exact hq.elim
  obtain ⟨e, a', w', hq, harr⟩ := key _ g0 a w rfl h0 (ha.sub hs)
  exact ⟨e, a', w', hq, .of_steps (.one step_loop) harr⟩

theorem W_region {id : Nat} {l : List Oper} (h : WL P n l.toArray Q l s w) : W P n (.region id l.toArray false) Q s w := fun a ha =>
  wp_region_lit (h a ha)

theorem wl_nil {ops : Array Oper} (h : Q .normal s w) : WL P n ops Q [] s w := fun a ha => wpList_nil ⟨s, ha, h⟩

/-- Is the operation wanted? -/
def gd (ops : Array Oper) (s : St) : Option (Nat × Bool) → Option Bool
  | none => some true
  | some (j, want) => match ((ops[j]?).bind (·.dst)).bind (lk s) with
    | some (.bool b) => some (b == want)
    | some (.tuple _) => some false
    | _ => none

theorem Rep.wanted {a : Act} (h : Rep n s a) {ops : Array Oper} {o : Oper} {b : Bool} (hg : gd ops s o.guard = some b) : Region.wanted o (yielded ops a.tmps) = b := by
  unfold Region.wanted
  cases hgd : o.guard with
  | none => simpa [hgd, gd] using hg
  | some p =>
    obtain ⟨j, want⟩ := p
    simp only [hgd, gd] at hg
    simp only
    cases hd : (ops[j]?).bind (·.dst) with
    | none => simp [hd] at hg
    | some d =>
      simp only [hd, Option.bind_some] at hg
      cases hv : lk s d with
      | none => simp [hv] at hg
      | some v =>
        have hat := h.at_ d v hv
        rw [hv] at hg
        cases v with
        | bool c =>
          simp only [Option.some.injEq] at hg
          have hy : yielded ops a.tmps j = some c := by
            unfold yielded
            rw [hd]
            simp only [Option.bind_some]
            rw [Array.getD_eq_getD_getElem?] at hat
            cases hq : a.tmps[d]? with
            | none => rw [hq] at hat; cases hat
            | some u => rw [hq] at hat; simp at hat; subst hat; rfl
          rw [hy, ← hg]
          rfl
        | tuple c =>
          simp only [Option.some.injEq] at hg
          have hy : yielded ops a.tmps j = none := by
            unfold yielded
            rw [hd]
            simp only [Option.bind_some]
            rw [Array.getD_eq_getD_getElem?] at hat
            cases hq : a.tmps[d]? with
            | none => rfl
            | some u => rw [hq] at hat; simp at hat; subst hat; rfl
          rw [hy, ← hg]
          rfl
        | _ => simp at hg

/-- An operation that yields a value and leaves the world as it is. -/
def QV (P : Program) (n : Nat) (s : St) (w : World) (o : Oper) (v : Value) : Prop :=
  ∀ a, Rep n s a → (execOp a.eval o).run P w = .ok (.value v) w

/-- An operation that changes the world. -/
def ST (P : Program) (n : Nat) (s : St) (w : World) (o : Oper) (K : Value → World → Prop) : Prop :=
  ∀ a, Rep n s a → ∀ (KA : Act → World → Prop) (QA : Exit → Act → World → Prop), (∀ v w', K v w' → KA (a.put o.dst v) w') → o.wp P a w KA QA

theorem wl_val {ops : Array Oper} {d : Option Tmp} {op : Op} {ty : TypeId} {pos : String} {af : Array Edge} {g : Option (Nat × Bool)} {rest : List Oper} {v : Value}
    (hg : gd ops s g = some true) (hd : dOk n d = true) (hq : QV P n s w ⟨d, op, ty, pos, af, g⟩ v) (h : WL P n ops Q rest (pt d v s) w) :
    WL P n ops Q (⟨d, op, ty, pos, af, g⟩ :: rest) s w := fun a ha => by
  unfold wpList
  rw [if_pos (ha.wanted (o := ⟨d, op, ty, pos, af, g⟩) hg)]
  refine .inl ?_
  unfold Oper.wp
  rw [hq a ha]
  exact h _ (ha.put hd v)

theorem wl_skip {ops : Array Oper} {d : Option Tmp} {op : Op} {ty : TypeId} {pos : String} {af : Array Edge} {g : Option (Nat × Bool)} {rest : List Oper}
    (hg : gd ops s g = some false) (hd : dOk n d = true) (h : WL P n ops Q rest (pt d undef s) w) :
    WL P n ops Q (⟨d, op, ty, pos, af, g⟩ :: rest) s w := fun a ha => by
  unfold wpList
  rw [if_neg (by rw [ha.wanted (o := ⟨d, op, ty, pos, af, g⟩) hg]; simp)]
  exact h _ (ha.put hd undef)

theorem wl_do {ops : Array Oper} {d : Option Tmp} {op : Op} {ty : TypeId} {pos : String} {af : Array Edge} {g : Option (Nat × Bool)} {rest : List Oper}
    (hg : gd ops s g = some true) (hd : dOk n d = true) (hq : ST P n s w ⟨d, op, ty, pos, af, g⟩ (fun v w' => WL P n ops Q rest (pt d v s) w')) :
    WL P n ops Q (⟨d, op, ty, pos, af, g⟩ :: rest) s w := fun a ha => by
  unfold wpList
  rw [if_pos (ha.wanted (o := ⟨d, op, ty, pos, af, g⟩) hg)]
  exact .inl (hq a ha _ _ fun v w' hk => hk _ (ha.put hd v))

end
end Go.Proofs.Ytdenlafdbfbkoaa
