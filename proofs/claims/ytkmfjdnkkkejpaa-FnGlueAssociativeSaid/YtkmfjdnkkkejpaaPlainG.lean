/- Plain laws of badness, demerits and glue: no program in sight. -/
import Derived.Test.YtkmfjdnkkkejpaaLib
namespace Go.Proofs.Ytkmfjdnkkkejpaa
open Go.RowKit
set_option linter.unusedVariables false
set_option linter.unusedSimpArgs false

theorem badI_nn (n h : Int) (h0 : 0 ≤ n) (h1 : n ≤ 20000) (h2 : 0 ≤ h) (h3 : h ≤ 10000) : 0 ≤ badI n h ∧ badI n h ≤ 10000 := by
  obtain ⟨_, _, b1, _⟩ := cube100_bd n h0 h1
  unfold badI
  split
  · omega
  · split
    · omega
    · have := Int.ediv_nonneg b1 (show 0 ≤ h * h * h from by obtain ⟨_, _, c, _⟩ := cube_bd h (by omega) h3; omega)
      omega

theorem badI_need (n m h : Int) (h0 : 0 ≤ n) (hm : n ≤ m) (h1 : m ≤ 20000) (h2 : 0 ≤ h) (h3 : h ≤ 10000) : badI n h ≤ badI m h := by
  have a := badI_nn m h (by omega) h1 h2 h3
  by_cases hn : n = 0
  · subst hn; simpa [badI] using a.1
  have hm0 : m ≠ 0 := by omega
  by_cases hh : h = 0
  · subst hh; simp [badI, hn, hm0]
  simp only [badI, if_neg hn, if_neg hm0, if_neg hh]
  obtain ⟨_, _, c, _⟩ := cube_bd h (by omega) h3
  obtain ⟨x1, _, _, _⟩ := cube100_bd n h0 (by omega)
  obtain ⟨y1, _, _, _⟩ := cube100_bd m (by omega) h1
  have e1 : 100 * n * n ≤ 100 * m * m := Int.mul_le_mul (by omega) hm h0 (by omega)
  have e2 : 100 * n * n * n ≤ 100 * m * m * m := Int.mul_le_mul e1 hm h0 y1
  have := Int.ediv_le_ediv (show 0 < h * h * h by omega) e2
  omega

theorem badI_have (n h k : Int) (h0 : 0 ≤ n) (h1 : n ≤ 20000) (h2 : 0 ≤ h) (hk : h ≤ k) (h3 : k ≤ 10000) : badI n k ≤ badI n h := by
  have a := badI_nn n k h0 h1 (by omega) h3
  by_cases hn : n = 0
  · subst hn; simp [badI]
  by_cases hh : h = 0
  · subst hh; simp only [badI, if_neg hn, if_true] at *; omega
  have hk0 : k ≠ 0 := by omega
  simp only [badI, if_neg hn, if_neg hk0, if_neg hh]
  obtain ⟨a1, _, c, _⟩ := cube_bd h (by omega) (by omega)
  obtain ⟨b1, _, d, _⟩ := cube_bd k (by omega) h3
  obtain ⟨_, _, x, _⟩ := cube100_bd n h0 h1
  have e1 : h * h ≤ k * k := Int.mul_le_mul hk hk (by omega) (by omega)
  have e2 : h * h * h ≤ k * k * k := Int.mul_le_mul e1 hk (by omega) (by omega)
  have e3 : 100 * n * n * n / (k * k * k) ≤ 100 * n * n * n / (h * h * h) := by
    refine Int.le_ediv_of_mul_le (by omega) ?_
    have q0 := Int.ediv_nonneg x (show 0 ≤ k * k * k by omega)
    have := Int.mul_le_mul_of_nonneg_left e2 q0
    have := Int.ediv_mul_le (100 * n * n * n) (show k * k * k ≠ 0 by omega)
    omega
  omega

theorem badI_same (k : Int) (h2 : 1 ≤ k) (h3 : k ≤ 10000) : badI k k = 100 := by
  obtain ⟨_, _, c, _⟩ := cube_bd k h2 h3
  have e : 100 * k * k * k = 100 * (k * k * k) := by simp only [Int.mul_assoc]
  simp only [badI, if_neg (show k ≠ 0 by omega)]
  rw [e, Int.mul_ediv_cancel _ (by omega)]
  omega

theorem badI_twice (n h : Int) (h0 : 0 ≤ n) (h2 : 0 ≤ h) (h3 : h ≤ 10000) : badI (2 * n) (2 * h) = badI n h := by
  by_cases hn : n = 0
  · subst hn; simp [badI]
  by_cases hh : h = 0
  · subst hh; simp [badI, hn]
  have a : 2 * n ≠ 0 := by omega
  have b : 2 * h ≠ 0 := by omega
  simp only [badI, if_neg hn, if_neg hh, if_neg a, if_neg b]
  have e1 : 100 * (2 * n) * (2 * n) * (2 * n) = 8 * (100 * n * n * n) := by
    have : 100 * (2 * n) * (2 * n) * (2 * n) = (2 * (2 * 2)) * (100 * n * n * n) := by simp only [Int.mul_comm, Int.mul_left_comm, Int.mul_assoc]
    exact this
  have e2 : (2 * h) * (2 * h) * (2 * h) = 8 * (h * h * h) := by
    have : (2 * h) * (2 * h) * (2 * h) = (2 * (2 * 2)) * (h * h * h) := by simp only [Int.mul_comm, Int.mul_left_comm, Int.mul_assoc]
    exact this
  rw [e1, e2, Int.mul_ediv_mul_of_pos _ _ (by omega)]

theorem badR_of {n h : Int} (a : 0 ≤ n ∧ n ≤ 10000) (b : 0 ≤ h ∧ h ≤ 10000) : badR n h = badI n h := by simp [badR, inR, a, b]

theorem bad_facts (n k : Int) (a : 0 ≤ n ∧ n ≤ 10000) (b : 0 ≤ k ∧ k ≤ 10000) :
    (0 ≤ badR n k ∧ badR n k ≤ 10000) ∧ badR n k ≤ badR (min (n + 1) 10000) k ∧ badR n (min (k + 1) 10000) ≤ badR n k ∧ (k ≠ 0 → badR k k = 100) := by
  rw [badR_of a b, badR_of (show 0 ≤ min (n + 1) 10000 ∧ min (n + 1) 10000 ≤ 10000 by omega) b, badR_of a (show 0 ≤ min (k + 1) 10000 ∧ min (k + 1) 10000 ≤ 10000 by omega), badR_of b b]
  exact ⟨badI_nn n k a.1 (by omega) b.1 b.2, badI_need _ _ _ a.1 (by omega) (by omega) b.1 b.2, badI_have _ _ _ a.1 (by omega) b.1 (by omega) (by omega), fun h => badI_same k (by omega) b.2⟩

theorem bad_out (n k : Int) (h : ¬((0 ≤ n ∧ n ≤ 10000) ∧ (0 ≤ k ∧ k ≤ 10000))) : badR n k = -1 := by
  unfold badR; rw [if_neg]; simpa [inR] using h

theorem bad_twice (n k : Int) (a : 0 ≤ n ∧ n ≤ 10000) (b : 0 ≤ k ∧ k ≤ 10000) :
    (0 ≤ badR n k ∧ badR n k ≤ 10000) ∧ (2 * n ≤ 10000 → 2 * k ≤ 10000 → badR (2 * n) (2 * k) = badR n k) := by
  refine ⟨by rw [badR_of a b]; exact badI_nn n k a.1 (by omega) b.1 b.2, fun c d => ?_⟩
  rw [badR_of a b, badR_of (show 0 ≤ 2 * n ∧ 2 * n ≤ 10000 by omega) (show 0 ≤ 2 * k ∧ 2 * k ≤ 10000 by omega), badI_twice n k a.1 b.1 b.2]

theorem demR_of {a p : Int} {f : Bool} (x : 0 ≤ a ∧ a ≤ 10000) (y : -1000 ≤ p ∧ p ≤ 999) : demR a p f = demI a p f := by simp [demR, inR, x, y]

theorem sq_le (x y : Int) (h0 : 0 ≤ x) (h : x ≤ y) : x * x ≤ y * y := Int.mul_le_mul h h h0 (by omega)
theorem sq_neg (x y : Int) (h0 : y ≤ 0) (h : x ≤ y) : y * y ≤ x * x := by
  have := sq_le (-y) (-x) (by omega) (by omega)
  rwa [Int.neg_mul_neg, Int.neg_mul_neg] at this

theorem demI_bd (a p : Int) (f : Bool) (x : 0 ≤ a ∧ a ≤ 10000) (y : -1000 ≤ p ∧ p ≤ 999) : -1000000 ≤ demI a p f ∧ demI a p f ≤ 400003000 := by
  obtain ⟨b1, b2⟩ := sq_bd (1 + a) (by omega) (by omega)
  obtain ⟨b3, b4⟩ := sq_bd (1 + a + p) (by omega) (by omega)
  have b5 : 0 ≤ p * p := by obtain ⟨h, _⟩ := sq_bd p (by omega) (by omega); exact h
  have b6 : -1000 < p → p < 0 → p * p ≤ 1000000 := fun h1 h2 => by have := sq_neg (-1000) p (by omega) (by omega); omega
  unfold demI
  cases f
  all_goals
    simp only [Bool.false_eq_true, if_false, if_true]
    split
    · omega
    · split
      · have := b6 (by omega) (by omega); omega
      · omega

theorem demI_worse (a b p : Int) (f : Bool) (x : 0 ≤ a) (h : a ≤ b) (hb : b ≤ 10000) (y : -1000 ≤ p ∧ p ≤ 999) : demI a p f ≤ demI b p f := by
  have h1 := sq_le (1 + a) (1 + b) (by omega) (by omega)
  have h2 : 0 ≤ p → (1 + a + p) * (1 + a + p) ≤ (1 + b + p) * (1 + b + p) := fun hp => sq_le _ _ (by omega) (by omega)
  unfold demI
  cases f
  all_goals
    simp only [Bool.false_eq_true, if_false, if_true]
    split
    · have := h2 (by omega); omega
    · split <;> omega

theorem demI_dearer (a p : Int) (f : Bool) (x : 0 ≤ a ∧ a ≤ 10000) (y : -1000 < p ∧ p < 999) : demI a p f ≤ demI a (p + 1) f := by
  have h1 : 0 ≤ p → (1 + a + p) * (1 + a + p) ≤ (1 + a + (p + 1)) * (1 + a + (p + 1)) := fun hp => sq_le _ _ (by omega) (by omega)
  have h2 : p + 1 < 0 → (p + 1) * (p + 1) ≤ p * p := fun hp => sq_neg _ _ (by omega) (by omega)
  have h3 : 0 ≤ p * p := by obtain ⟨h, _⟩ := sq_bd p (by omega) (by omega); exact h
  have h4 : p = -1 → (1 + a + (p + 1)) * (1 + a + (p + 1)) = (1 + a) * (1 + a) := fun hp => by subst hp; simp
  unfold demI
  cases f
  all_goals
    simp only [Bool.false_eq_true, if_false, if_true]
    by_cases c : 0 ≤ p
    · rw [if_pos c, if_pos (show 0 ≤ p + 1 by omega)]; have := h1 c; omega
    · rw [if_neg c, if_pos (show -1000 < p by omega)]
      by_cases c2 : 0 ≤ p + 1
      · rw [if_pos c2]; have := h4 (by omega); omega
      · rw [if_neg c2, if_pos (show -1000 < p + 1 by omega)]; have := h2 (by omega); omega

theorem demI_flag (a p : Int) : demI a p true = demI a p false + 3000 := by simp [demI]

theorem dem_facts (a p : Int) (f : Bool) (x : 0 ≤ a ∧ a ≤ 10000) (y : -1000 ≤ p ∧ p ≤ 999) :
    (-1000000 ≤ demR a p f ∧ demR a p f ≤ 400003000) ∧ (-1000000 ≤ demR a p false ∧ demR a p false ≤ 400003000) ∧ demR a p f ≤ demR (min (a + 1) 10000) p f ∧ (p ≠ -1000 → p + 1 ≠ 1000 → demR a p f ≤ demR a (p + 1) f) ∧
      demR a p true = demR a p false + 3000 := by
  refine ⟨?_, ?_, ?_, fun h1 h2 => ?_, ?_⟩
  · rw [demR_of x y]; exact demI_bd a p f x y
  · rw [demR_of x y]; exact demI_bd a p false x y
  · rw [demR_of x y, demR_of (show 0 ≤ min (a + 1) 10000 ∧ min (a + 1) 10000 ≤ 10000 by omega) y]; exact demI_worse _ _ _ _ x.1 (by omega) (by omega) y
  · rw [demR_of x y, demR_of x (show -1000 ≤ p + 1 ∧ p + 1 ≤ 999 by omega)]; exact demI_dearer _ _ _ x (by omega)
  · rw [demR_of x y, demR_of x y, demI_flag]

theorem dem_plain (a : Int) (x : 0 ≤ a ∧ a ≤ 10000) : demR a 0 false = (1 + a) * (1 + a) ∧ demR a (-1000) false = (1 + a) * (1 + a) := by
  rw [demR_of x (by omega), demR_of x (by omega)]
  constructor
  · simp [demI]
  · simp [demI]

theorem fit_facts (g : Glue) (d : Int) (hg : vGlue g = true) (hd : inR d 0 10000 = true) :
    (0 ≤ (fitR g d).2 ∧ (fitR g d).2 ≤ 10000) ∧
    ((fitR g d).1 = 1 ∧ g.wd = d ∧ (fitR g d).2 = 0 ∨ (fitR g d).1 = 2 ∧ g.wd < d ∨ (fitR g d).1 = 3 ∧ d < g.wd ∧ g.wd - d ≤ g.sh ∧ (fitR g d).2 ≤ 100 ∨ (fitR g d).1 = 4 ∧ g.sh < g.wd - d ∧ (fitR g d).2 = 10000) := by
  have e : fitR g d = fitI g d := by simp [fitR, hg, hd]
  obtain ⟨v1, v2, v3⟩ := vGlue_iff.1 hg
  have dd := inR_iff.1 hd
  rw [e]
  unfold fitI
  split
  · simp; omega
  · split
    · have := badI_nn (d - g.wd) g.st (by omega) (by omega) v2.1 v2.2
      refine ⟨this, .inr (.inl ⟨rfl, by omega⟩)⟩
    · split
      · have := badI_nn (g.wd - d) g.sh (by omega) (by omega) v3.1 v3.2
        refine ⟨this, .inr (.inr (.inl ⟨rfl, by omega, by assumption, ?_⟩))⟩
        have h1 := badI_need (g.wd - d) g.sh g.sh (by omega) (by assumption) (by omega) v3.1 v3.2
        rw [badI_same g.sh (by omega) v3.2] at h1
        exact h1
      · exact ⟨⟨by decide, by decide⟩, .inr (.inr (.inr ⟨rfl, by omega, rfl⟩))⟩

theorem fit_out (g : Glue) (d : Int) (h : ¬(vGlue g = true ∧ inR d 0 10000 = true)) : fitR g d = (0, -1) := by
  unfold fitR; rw [if_neg]; simpa using h

theorem wrap_id (x : Int) (h : -9223372036854775808 ≤ x ∧ x ≤ 9223372036854775807) : wrap64 x = x := by unfold wrap64; omega

theorem addG_eq (a b : Glue) (ha : vGlue a = true) (hb : vGlue b = true) : addG a b = ⟨a.wd + b.wd, a.st + b.st, a.sh + b.sh⟩ := by
  obtain ⟨a1, a2, a3⟩ := vGlue_iff.1 ha
  obtain ⟨b1, b2, b3⟩ := vGlue_iff.1 hb
  simp only [addG]
  rw [wrap_id _ (by omega), wrap_id _ (by omega), wrap_id _ (by omega)]

theorem addR_iff (a b : Glue) : (addGlueR a b).2 = true ↔ vGlue a = true ∧ vGlue b = true ∧ vGlue (addG a b) = true := by
  unfold addGlueR; split <;> simp_all

theorem addR_of {a b : Glue} (ha : vGlue a = true) (hb : vGlue b = true) (hs : vGlue (addG a b) = true) : addGlueR a b = (addG a b, true) := by
  simp [addGlueR, ha, hb, hs]

theorem addR_not {a b : Glue} (h : ¬(vGlue a = true ∧ vGlue b = true ∧ vGlue (addG a b) = true)) : addGlueR a b = (Glue.zero, false) := by
  unfold addGlueR; rw [if_neg]; simpa [and_assoc] using h

theorem addG_comm (a b : Glue) : addG a b = addG b a := by simp [addG, Int.add_comm]

theorem add_cases (g k : Glue) : (∃ s, addGlueR g k = (s, true) ∧ addGlueR k g = (s, true) ∧ addGlueR g Glue.zero = (g, true) ∧ s.wd = g.wd + k.wd ∧ vGlue s = true ∧ (-10000 ≤ g.wd ∧ g.wd ≤ 10000) ∧ (-10000 ≤ k.wd ∧ k.wd ≤ 10000)) ∨
    (addGlueR g k = (Glue.zero, false) ∧ addGlueR k g = (Glue.zero, false)) := by
  by_cases h : vGlue g = true ∧ vGlue k = true ∧ vGlue (addG g k) = true
  · obtain ⟨h1, h2, h3⟩ := h
    left
    refine ⟨addG g k, addR_of h1 h2 h3, by rw [addR_of h2 h1 (by rw [addG_comm]; exact h3), addG_comm], ?_, by rw [addG_eq g k h1 h2], h3, (vGlue_iff.1 h1).1, (vGlue_iff.1 h2).1⟩
    have e : addG g Glue.zero = g := by rw [addG_eq g Glue.zero h1 (by decide)]; simp [Glue.zero]
    rw [addR_of h1 (by decide) (by rw [e]; exact h1), e]
  · right
    exact ⟨addR_not h, addR_not (by rw [addG_comm k g]; exact fun ⟨a, b, c⟩ => h ⟨b, a, c⟩)⟩

theorem add_assoc (a b c s x h y : Glue) (h1 : addGlueR a b = (s, true)) (h2 : addGlueR s c = (x, true)) (h3 : addGlueR b c = (h, true)) (h4 : addGlueR a h = (y, true)) : x.wd = y.wd ∧ x.st = y.st ∧ x.sh = y.sh := by
  have k : ∀ p q r : Glue, addGlueR p q = (r, true) → vGlue p = true ∧ vGlue q = true ∧ r = ⟨p.wd + q.wd, p.st + q.st, p.sh + q.sh⟩ := fun p q r e => by
    have := (addR_iff p q).1 (by rw [e])
    obtain ⟨u, v, z⟩ := this
    rw [addR_of u v z] at e
    simp only [Prod.mk.injEq, and_true] at e
    exact ⟨u, v, by rw [← e, addG_eq p q u v]⟩
  obtain ⟨_, _, e1⟩ := k _ _ _ h1
  obtain ⟨_, _, e2⟩ := k _ _ _ h2
  obtain ⟨_, _, e3⟩ := k _ _ _ h3
  obtain ⟨_, _, e4⟩ := k _ _ _ h4
  subst e1 e3
  subst e2 e4
  simp only
  omega

end Go.Proofs.Ytkmfjdnkkkejpaa
