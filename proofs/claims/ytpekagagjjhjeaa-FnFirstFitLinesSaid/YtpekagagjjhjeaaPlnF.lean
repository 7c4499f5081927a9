/- First fit: what it computes. No program in sight. -/
import Derived.Test.YtpekagagjjhjeaaPln
namespace Go.Proofs.Ytpekagagjjhjeaa
open Go.RowKit
set_option linter.unusedVariables false
set_option linter.unusedSimpArgs false

def ffStep (xs : List Item) (f d : Int) (s : Int × Int) (t : Int) : Int × Int :=
  if lineOk xs f t then (if (fitLn xs f t d).1 = 4 then s.1 else t, if s.2 < 0 then t else s.2) else s
def ffTo (xs : List Item) (f d : Int) (k : Nat) : Int × Int := (List.range k).foldl (fun s (i : Nat) => ffStep xs f d s (f + 1 + (i : Int))) (-1, -1)
def comb (s : Int × Int) : Int := if s.1 < 0 then s.2 else s.1
def nextFF (xs : List Item) (f d : Int) : Int := comb (ffTo xs f d ((xs.length : Int) - (f + 1)).toNat)
def ffGo (xs : List Item) (d : Int) : Nat → Int → List Int
  | 0, _ => []
  | n + 1, f => if f < (xs.length : Int) - 1 then nextFF xs f d :: ffGo xs d n (nextFF xs f d) else []
def ffList (xs : List Item) (d : Int) : List Int := if vItems xs && inR d 1 10000 then ffGo xs d xs.length (-1) else []

theorem ffTo_succ (xs : List Item) (f d : Int) (k : Nat) : ffTo xs f d (k + 1) = ffStep xs f d (ffTo xs f d k) (f + 1 + (k : Int)) := by simp [ffTo, List.range_succ]

theorem ffTo_succT {xs : List Item} {f d t : Int} (h : f + 1 ≤ t) : ffTo xs f d (t + 1 - (f + 1)).toNat = ffStep xs f d (ffTo xs f d (t - (f + 1)).toNat) t := by
  rw [show (t + 1 - (f + 1)).toNat = (t - (f + 1)).toNat + 1 by omega, ffTo_succ, show f + 1 + (((t - (f + 1)).toNat : Nat) : Int) = t by omega]

theorem ffTo_stop {xs : List Item} {f d t : Int} {x : Item} (h0 : -1 ≤ f) (h : f + 1 ≤ t) (hx : xs[t.toNat]? = some x) (hf : forced x = true) : ∀ m : Nat, (t + 1 - (f + 1)).toNat ≤ m → ffTo xs f d m = ffTo xs f d (t + 1 - (f + 1)).toNat
  | 0, hm => by rw [show (t + 1 - (f + 1)).toNat = 0 by omega]
  | m + 1, hm => by
    by_cases he : (t + 1 - (f + 1)).toNat = m + 1
    · rw [he]
    · rw [ffTo_succ, ffTo_stop h0 h hx hf m (by omega)]
      have : lineOk xs f (f + 1 + (m : Int)) = false := by
        cases hb : lineOk xs f (f + 1 + (m : Int))
        · rfl
        · have := (lineOk_iff.1 hb).2.2.2.2.2 _ x hx (by omega) (by omega)
          rw [hf] at this
          cases this
      simp [ffStep, this]

theorem next_stop {xs : List Item} {f d t : Int} {x : Item} (h0 : -1 ≤ f) (h : f + 1 ≤ t) (hx : xs[t.toNat]? = some x) (hf : forced x = true) : nextFF xs f d = comb (ffTo xs f d (t + 1 - (f + 1)).toNat) := by
  have := (List.getElem?_eq_some_iff.1 hx).1
  unfold nextFF
  rw [ffTo_stop h0 h hx hf _ (by omega)]

theorem next_end {xs : List Item} {f d t : Int} (h : t = xs.length) : nextFF xs f d = comb (ffTo xs f d (t - (f + 1)).toNat) := by subst h; rfl

theorem ffTo_inv (xs : List Item) (f d : Int) : ∀ k : Nat, ((ffTo xs f d k).1 = -1 ∨ lineOk xs f (ffTo xs f d k).1 = true) ∧ ((ffTo xs f d k).2 = -1 ∨ lineOk xs f (ffTo xs f d k).2 = true) ∧
    ((ffTo xs f d k).2 = -1 → ∀ i : Nat, i < k → lineOk xs f (f + 1 + (i : Int)) = false)
  | 0 => by simp [ffTo]
  | k + 1 => by
    obtain ⟨h1, h2, h3⟩ := ffTo_inv xs f d k
    rw [ffTo_succ]
    unfold ffStep
    by_cases hl : lineOk xs f (f + 1 + (k : Int)) = true
    · rw [if_pos hl]
      have ha := lineOk_iff.1 hl
      refine ⟨?_, ?_, ?_⟩
      · simp only; split
        · exact h1
        · exact .inr hl
      · simp only; split
        · exact .inr hl
        · exact h2
      · simp only; intro he
        split at he
        · omega
        · rename_i hn; rw [he] at hn; omega
    · rw [if_neg hl]
      refine ⟨h1, h2, fun he i hi => ?_⟩
      by_cases hik : i < k
      · exact h3 he i hik
      · have : i = k := by omega
        subst this
        simpa using hl

theorem first_forced {xs : List Item} {f : Int} (h0 : -1 ≤ f) (hf : f = -1 ∨ brk xs f = true) : ∀ (j : Nat) (x : Item), f < j → xs[j]? = some x → forced x = true → ∃ t : Int, f < t ∧ t ≤ j ∧ lineOk xs f t = true := by
  intro j
  induction j using Nat.strongRecOn with
  | _ j ih =>
    intro x h1 hx hfx
    cases hl : lineOk xs f (j : Int)
    · by_cases hall : ∀ (i : Nat) y, xs[i]? = some y → f < i → (i : Int) < (j : Int) → forced y = false
      · have hlt := (List.getElem?_eq_some_iff.1 hx).1
        have hb : brk xs (j : Int) = true := by
          rw [brk_iff]
          exact ⟨by omega, by omega, by simpa using brkN_forced hx hfx⟩
        rw [lineOk_iff.2 ⟨h1, h0, by omega, hf, hb, hall⟩] at hl
        cases hl
      · simp only [Classical.not_forall] at hall
        obtain ⟨i, y, hy, a1, a2, a3⟩ := hall
        obtain ⟨t, b1, b2, b3⟩ := ih i (by omega) y a1 hy (by simpa using a3)
        exact ⟨t, b1, by omega, b3⟩
    · exact ⟨j, h1, Int.le_refl _, hl⟩

theorem next_ok {xs : List Item} {f d : Int} (hv : vItems xs = true) (h0 : -1 ≤ f) (hf : f = -1 ∨ brk xs f = true) (h : f < (xs.length : Int) - 1) : lineOk xs f (nextFF xs f d) = true := by
  obtain ⟨_, h1, _, x, hx, hfx⟩ := vItems_iff.1 hv
  obtain ⟨t, t1, t2, t3⟩ := first_forced h0 hf (xs.length - 1) x (by omega) hx hfx
  obtain ⟨i1, i2, i3⟩ := ffTo_inv xs f d ((xs.length : Int) - (f + 1)).toNat
  have hn : (ffTo xs f d ((xs.length : Int) - (f + 1)).toNat).2 ≠ -1 := fun he => by
    have := i3 he (t - (f + 1)).toNat (by omega)
    rw [show f + 1 + (((t - (f + 1)).toNat : Nat) : Int) = t by omega, t3] at this
    cases this
  unfold nextFF comb
  split
  · exact i2.resolve_left hn
  · rename_i hp
    exact i1.resolve_left (fun he => by rw [he] at hp; omega)

/-- Lines one behind the other, up to the last item. -/
def Chain (xs : List Item) : Int → List Int → Prop
  | f, [] => f = (xs.length : Int) - 1
  | f, t :: bs => lineOk xs f t = true ∧ Chain xs t bs

theorem ffGo_chain {xs : List Item} {d : Int} (hv : vItems xs = true) : ∀ (m : Nat) (f : Int), -1 ≤ f → (f = -1 ∨ brk xs f = true) → f ≤ (xs.length : Int) - 1 → (xs.length : Int) - 1 - f ≤ m → Chain xs f (ffGo xs d m f)
  | 0, f, h0, hf, h1, h2 => by simp only [ffGo, Chain]; omega
  | m + 1, f, h0, hf, h1, h2 => by
    unfold ffGo
    split
    · rename_i hlt
      have hk := next_ok (d := d) hv h0 hf hlt
      obtain ⟨a1, a2, a3, a4, a5, _⟩ := lineOk_iff.1 hk
      exact ⟨hk, ffGo_chain hv m _ (by omega) (.inr a5) (by omega) (by omega)⟩
    · simp only [Chain]; omega

theorem chain_get {xs : List Item} : ∀ (bs : List Int) (f : Int), Chain xs f bs ↔ (∀ k : Nat, k < bs.length → lineOk xs ((f :: bs).getD k 0) ((f :: bs).getD (k + 1) 0) = true) ∧ (f :: bs).getD bs.length 0 = (xs.length : Int) - 1
  | [], f => by simp [Chain]
  | t :: bs, f => by
    rw [Chain, chain_get bs t]
    constructor
    · rintro ⟨h1, h2, h3⟩
      refine ⟨fun k hk => ?_, by simpa using h3⟩
      cases k with
      | zero => simpa using h1
      | succ k => simpa using h2 k (by simpa using hk)
    · rintro ⟨h1, h2⟩
      exact ⟨by simpa using h1 0 (by simp), fun k hk => by simpa using h1 (k + 1) (by simpa using hk), by simpa using h2⟩

theorem chain_iff {xs : List Item} {bs : List Int} : vBreaks xs bs = true ↔ vItems xs = true ∧ Chain xs (-1) bs := by
  rw [chain_get]
  simp only [vBreaks, linesTo, frm, Bool.and_eq_true, List.all_eq_true, List.mem_range, and_assoc]
  exact ⟨fun ⟨a, b, c⟩ => ⟨a, b, of_decide_eq_true c⟩, fun ⟨a, b, c⟩ => ⟨a, b, decide_eq_true c⟩⟩

theorem ffList_valid {xs : List Item} {d : Int} (hv : vItems xs = true) (hd : inR d 1 10000 = true) : vBreaks xs (ffList xs d) = true := by
  have h1 := (vItems_iff.1 hv).2.1
  rw [chain_iff]
  refine ⟨hv, ?_⟩
  rw [ffList, hv, hd]
  exact ffGo_chain hv _ _ (by omega) (.inl rfl) (by omega) (by omega)

theorem ffGo_len {xs : List Item} {d : Int} : ∀ (m : Nat) (f : Int), (ffGo xs d m f).length ≤ m
  | 0, f => by simp [ffGo]
  | m + 1, f => by
    unfold ffGo
    split
    · simp only [List.length_cons]; have := ffGo_len (xs := xs) (d := d) m (nextFF xs f d); omega
    · simp

theorem ffList_len (xs : List Item) (d : Int) : (ffList xs d).length ≤ 60 := by
  unfold ffList
  split
  · rename_i h
    simp only [Bool.and_eq_true] at h
    have := (vItems_iff.1 h.1).2.2.1
    have := ffGo_len (xs := xs) (d := d) xs.length (-1)
    omega
  · simp

theorem ffGo_step {xs : List Item} {d f : Int} {m : Nat} (h : f < (xs.length : Int) - 1) (hm : (xs.length : Int) - 1 - f ≤ m) : ffGo xs d m f = nextFF xs f d :: ffGo xs d (m - 1) (nextFF xs f d) := by
  obtain ⟨k, rfl⟩ : ∃ k, m = k + 1 := ⟨m - 1, by omega⟩
  rw [ffGo, if_pos h]
  rfl

theorem ffGo_end {xs : List Item} {d f : Int} {m : Nat} (h : ¬ f < (xs.length : Int) - 1) : ffGo xs d m f = [] := by
  cases m with
  | zero => rfl
  | succ k => rw [ffGo, if_neg h]

theorem comb_yes {xs : List Item} {f d t a b : Int} {s : Int × Int} (hk : lineOk xs f t = true) (e : fitLn xs f t d = (a, b)) (ha : a ≠ 4) : comb (ffStep xs f d s t) = t := by
  have := (lineOk_iff.1 hk).1
  have := (lineOk_iff.1 hk).2.1
  unfold ffStep
  rw [if_pos hk, e]
  simp only [if_neg ha, comb]
  rw [if_neg (by omega)]

theorem comb_no {xs : List Item} {f d t b : Int} {s : Int × Int} (hk : lineOk xs f t = true) (e : fitLn xs f t d = (4, b)) : comb (ffStep xs f d s t) = if comb s < 0 then t else comb s := by
  unfold ffStep
  rw [if_pos hk, e]
  simp only [if_true, comb]
  by_cases h1 : s.1 < 0
  · simp only [h1, if_true]
  · simp only [h1, if_false]

end Go.Proofs.Ytpekagagjjhjeaa
