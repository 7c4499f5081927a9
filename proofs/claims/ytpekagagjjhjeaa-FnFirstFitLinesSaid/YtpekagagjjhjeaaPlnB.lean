/- The cheapest ways: the table and the way, over any costs of steps. No program in sight. -/
import Derived.Test.YtpekagagjjhjeaaPlnF
namespace Go.Proofs.Ytpekagagjjhjeaa
open Go.RowKit
set_option linter.unusedVariables false
set_option linter.unusedSimpArgs false

abbrev Ent := Option (Int × Int)

section
variable (K : Int → Int → Option Int)

def prevC (T : List Ent) (f : Int) : Option Int := if f = -1 then some 0 else (T.getD f.toNat none).map (·.1)

def entStep (T : List Ent) (t : Int) (acc : Ent) (f : Int) : Ent :=
  match prevC T f, K f t with
  | some c, some n => match acc with
    | none => some (n + c, f)
    | some a => if n + c < a.1 then some (n + c, f) else some a
  | _, _ => acc

def entTo (T : List Ent) (t : Int) (m : Nat) : Ent := (List.range m).foldl (fun acc (i : Nat) => entStep K T t acc ((i : Int) - 1)) none

def tab : Nat → List Ent
  | 0 => []
  | k + 1 => tab k ++ [entTo K (tab k) (k : Int) (k + 1)]

def ent (k : Nat) : Ent := entTo K (tab K k) (k : Int) (k + 1)

def pc (f : Int) : Option Int := if f = -1 then some 0 else (ent K f.toNat).map (·.1)

def pth : Nat → Int → List Int
  | 0, _ => []
  | m + 1, t => if t < 0 then [] else pth m (((ent K t.toNat).map (·.2)).getD 0) ++ [t]

variable {K}

theorem tab_len : ∀ k, (tab K k).length = k
  | 0 => rfl
  | k + 1 => by simp [tab, tab_len k]

theorem tab_get : ∀ (k i : Nat), i < k → (tab K k)[i]? = some (ent K i)
  | 0, i, h => by omega
  | k + 1, i, h => by
    rw [tab]
    by_cases hi : i < k
    · rw [List.getElem?_append_left (by rw [tab_len]; exact hi), tab_get k i hi]
    · have : i = k := by omega
      subst this
      rw [List.getElem?_append_right (by rw [tab_len]; exact Nat.le_refl _), tab_len]
      simp [ent]

theorem prevC_tab {k : Nat} {f : Int} (h0 : -1 ≤ f) (h : f < k) : prevC (tab K k) f = pc K f := by
  unfold prevC pc
  split
  · rfl
  · rw [List.getD_eq_getElem?_getD, tab_get k f.toNat (by omega)]
    rfl

theorem entTo_succ (T : List Ent) (t : Int) (m : Nat) : entTo K T t (m + 1) = entStep K T t (entTo K T t m) ((m : Int) - 1) := by simp [entTo, List.range_succ]

theorem entTo_succT {T : List Ent} {t f : Int} (h : -1 ≤ f) : entTo K T t (f + 1 + 1).toNat = entStep K T t (entTo K T t (f + 1).toNat) f := by
  rw [show (f + 1 + 1).toNat = (f + 1).toNat + 1 by omega, entTo_succ, show (((f + 1).toNat : Nat) : Int) - 1 = f by omega]

theorem entTo_ok {T : List Ent} {t : Int} : ∀ (m : Nat) (c f : Int), entTo K T t m = some (c, f) → -1 ≤ f ∧ f + 1 < m ∧ ∃ c0 n, prevC T f = some c0 ∧ K f t = some n ∧ c = n + c0
  | 0, c, f, h => by simp [entTo] at h
  | m + 1, c, f, h => by
    rw [entTo_succ] at h
    unfold entStep at h
    have ih := entTo_ok (T := T) (t := t) m
    split at h
    · rename_i c0 n h1 h2
      split at h
      · simp only [Option.some.injEq, Prod.mk.injEq] at h
        obtain ⟨rfl, rfl⟩ := h
        exact ⟨by omega, by omega, c0, n, h1, h2, rfl⟩
      · rename_i a ha
        split at h
        · simp only [Option.some.injEq, Prod.mk.injEq] at h
          obtain ⟨rfl, rfl⟩ := h
          exact ⟨by omega, by omega, c0, n, h1, h2, rfl⟩
        · simp only [Option.some.injEq] at h
          subst h
          obtain ⟨a1, a2, a3⟩ := ih c f ha
          exact ⟨a1, by omega, a3⟩
    · obtain ⟨a1, a2, a3⟩ := ih c f h
      exact ⟨a1, by omega, a3⟩

theorem entTo_le {T : List Ent} {t : Int} : ∀ (m i : Nat) (c0 n : Int), i < m → prevC T ((i : Int) - 1) = some c0 → K ((i : Int) - 1) t = some n → ∃ c f, entTo K T t m = some (c, f) ∧ c ≤ n + c0
  | 0, i, c0, n, h, _, _ => by omega
  | m + 1, i, c0, n, h, h1, h2 => by
    rw [entTo_succ]
    unfold entStep
    by_cases hi : i < m
    · obtain ⟨c, f, e, hle⟩ := entTo_le m i c0 n hi h1 h2
      rw [e]
      split
      · rename_i c1 n1 _ _
        simp only
        split
        · rename_i hlt; exact ⟨_, _, rfl, by omega⟩
        · exact ⟨_, _, rfl, hle⟩
      · exact ⟨_, _, rfl, hle⟩
    · have : i = m := by omega
      subst this
      rw [h1, h2]
      simp only
      split
      · exact ⟨_, _, rfl, Int.le_refl _⟩
      · split
        · exact ⟨_, _, rfl, Int.le_refl _⟩
        · rename_i a _ hn; exact ⟨a.1, a.2, rfl, by omega⟩

theorem ent_ok {t : Nat} {c f : Int} (h : ent K t = some (c, f)) : -1 ≤ f ∧ f < t ∧ ∃ c0 n, pc K f = some c0 ∧ K f t = some n ∧ c = n + c0 := by
  obtain ⟨h1, h2, c0, n, h3, h4, h5⟩ := entTo_ok _ _ _ h
  have h6 : f < t := by omega
  rw [prevC_tab h1 h6] at h3
  exact ⟨h1, h6, c0, n, h3, h4, h5⟩

theorem ent_le {t : Nat} {f c0 n : Int} (h0 : -1 ≤ f) (h : f < t) (h1 : pc K f = some c0) (h2 : K f t = some n) : ∃ c g, ent K t = some (c, g) ∧ c ≤ n + c0 := by
  have := entTo_le (K := K) (T := tab K t) (t := (t : Int)) (t + 1) (f + 1).toNat c0 n (by omega) (by rw [show (((f + 1).toNat : Nat) : Int) - 1 = f by omega, prevC_tab h0 h, h1]) (by rw [show (((f + 1).toNat : Nat) : Int) - 1 = f by omega, h2])
  exact this

theorem ent_bd {lo hi : Int} (hK : ∀ f t n, K f t = some n → -lo ≤ n ∧ n ≤ hi) (hlo : 0 ≤ lo) (hhi : 0 ≤ hi) : ∀ (t : Nat) (c f : Int), ent K t = some (c, f) → -lo * ((t : Int) + 1) ≤ c ∧ c ≤ hi * ((t : Int) + 1) := by
  intro t
  induction t using Nat.strongRecOn with
  | _ t ih =>
    intro c f h
    obtain ⟨h1, h2, c0, n, h3, h4, h5⟩ := ent_ok h
    have hk := hK _ _ _ h4
    by_cases hf : f = -1
    · subst hf
      simp only [pc, if_true, Option.some.injEq] at h3
      have a1 : 0 ≤ lo * (t : Int) := Int.mul_nonneg hlo (by omega)
      have a2 : 0 ≤ hi * (t : Int) := Int.mul_nonneg hhi (by omega)
      rw [Int.mul_add, Int.mul_add, Int.neg_mul]
      omega
    · simp only [pc, if_neg hf] at h3
      obtain ⟨p, hp, rfl⟩ := Option.map_eq_some_iff.1 h3
      have hi2 := ih f.toNat (by omega) p.1 p.2 hp
      have e1 : ((f.toNat : Nat) : Int) = f := by omega
      rw [e1] at hi2
      have a1 : lo * (f + 1) ≤ lo * (t : Int) := Int.mul_le_mul_of_nonneg_left (by omega) hlo
      have a2 : hi * (f + 1) ≤ hi * (t : Int) := Int.mul_le_mul_of_nonneg_left (by omega) hhi
      rw [Int.neg_mul] at hi2
      rw [Int.mul_add, Int.mul_add, Int.neg_mul]
      omega

theorem pc_some {t : Nat} {c f : Int} (h : ent K t = some (c, f)) : f = -1 ∨ (0 ≤ f ∧ f < t ∧ (ent K f.toNat).isSome = true) := by
  obtain ⟨h1, h2, c0, n, h3, _⟩ := ent_ok h
  by_cases hf : f = -1
  · exact .inl hf
  · right
    simp only [pc, if_neg hf] at h3
    obtain ⟨p, hp, _⟩ := Option.map_eq_some_iff.1 h3
    exact ⟨by omega, h2, by rw [hp]; rfl⟩

theorem pth_neg {m : Nat} {t : Int} (h : t < 0) : pth K m t = [] := by
  cases m with
  | zero => rfl
  | succ m => rw [pth, if_pos h]

theorem pth_step {m : Nat} {t c f : Int} (h : 0 ≤ t) (hm : t < m) (he : ent K t.toNat = some (c, f)) : pth K m t = pth K (m - 1) f ++ [t] := by
  obtain ⟨k, rfl⟩ : ∃ k, m = k + 1 := ⟨m - 1, by omega⟩
  rw [pth, if_neg (by omega), he]
  rfl

theorem pth_len : ∀ (m : Nat) (t : Int), (pth K m t).length ≤ m
  | 0, t => by simp [pth]
  | m + 1, t => by
    rw [pth]
    split
    · simp
    · simp only [List.length_append, List.length_cons, List.length_nil]
      have := pth_len m (((ent K t.toNat).map (·.2)).getD 0)
      omega

/-! ### The arrays of the table -/
def cstE (o : Ent) : Int := (o.map (·.1)).getD 0
def befE (o : Ent) : Int := (o.map (·.2)).getD 0
def knoE (o : Ent) : Bool := o.isSome

def hdT (K : Int → Int → Option Int) (n k : Nat) : List Ent := tab K k ++ List.replicate (n - k) none
def stT (K : Int → Int → Option Int) (n k : Nat) (acc : Ent) : List Ent := tab K k ++ acc :: List.replicate (n - k - 1) none

theorem hdT_st {n k : Nat} (h : k < n) : hdT K n k = stT K n k none := by
  unfold hdT stT
  rw [show n - k = n - k - 1 + 1 by omega, List.replicate_succ]
  rfl
theorem stT_hd {n k : Nat} : stT K n k (ent K k) = hdT K n (k + 1) := by
  unfold hdT stT
  rw [tab, List.append_assoc]
  rfl
theorem hdT_len {n k : Nat} (h : k ≤ n) : (hdT K n k).length = n := by simp [hdT, tab_len]; omega
theorem stT_len {n k : Nat} {acc : Ent} (h : k < n) : (stT K n k acc).length = n := by simp [stT, tab_len]; omega
theorem hdT_end {n : Nat} : hdT K n n = tab K n := by simp [hdT]
theorem stT_lt {n k i : Nat} {acc : Ent} (h : i < k) : (stT K n k acc)[i]? = some (ent K i) := by
  unfold stT
  rw [List.getElem?_append_left (by rw [tab_len]; exact h), tab_get k i h]
theorem stT_at {n k : Nat} {acc : Ent} : (stT K n k acc)[k]? = some acc := by
  unfold stT
  rw [List.getElem?_append_right (by rw [tab_len]; exact Nat.le_refl _), tab_len]
  simp
theorem stT_set {n k : Nat} {acc o : Ent} : (stT K n k acc).set k o = stT K n k o := by
  unfold stT
  rw [List.set_append_right _ _ (by rw [tab_len]; exact Nat.le_refl _), tab_len]
  simp

end

/-! ### The costs of a paragraph's lines -/
def kB (xs : List Item) (d tol : Int) (f t : Int) : Option Int := if lineOk xs f t && (lnCost xs f t d tol).2 then some (lnCost xs f t d tol).1 else none
def kL (xs : List Item) (d tol : Int) (f t : Int) : Option Int := (kB xs d tol f t).map fun _ => 1

theorem kB_some {xs : List Item} {d tol f t n : Int} (h : kB xs d tol f t = some n) : lineOk xs f t = true ∧ lnCost xs f t d tol = (n, true) := by
  unfold kB at h
  split at h
  · rename_i hc
    simp only [Bool.and_eq_true] at hc
    simp only [Option.some.injEq] at h
    exact ⟨hc.1, by rw [← h, ← hc.2]⟩
  · cases h

theorem kB_bd {xs : List Item} {d tol f t n : Int} (hv : vItems xs = true) (hd : inR d 1 10000 = true) (h : kB xs d tol f t = some n) : -1000000 ≤ n ∧ n ≤ 500000000 := by
  obtain ⟨h1, h2⟩ := kB_some h
  have := lnCost_bd (f := f) (t := t) (tol := tol) hv hd (lineOk_iff.1 h1).2.2.2.2.1
  rw [h2] at this
  exact this

def okB (xs : List Item) (d tol : Int) : Bool := vItems xs && inR d 1 10000 && inR tol 0 10000

def bestR (xs : List Item) (d tol : Int) : List Int × Int × Bool :=
  if okB xs d tol then match ent (kB xs d tol) (xs.length - 1) with
    | some (c, _) => (pth (kB xs d tol) xs.length ((xs.length : Int) - 1), c, true)
    | none => ([], 0, false)
  else ([], 0, false)

theorem bestR_len (xs : List Item) (d tol : Int) : (bestR xs d tol).1.length ≤ 60 := by
  unfold bestR
  split
  · rename_i h
    simp only [okB, Bool.and_eq_true] at h
    have := (vItems_iff.1 h.1.1).2.2.1
    split
    · have := pth_len (K := kB xs d tol) xs.length ((xs.length : Int) - 1)
      simp only
      omega
    · simp
  · simp

end Go.Proofs.Ytpekagagjjhjeaa
