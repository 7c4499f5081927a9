/- First fit needs the fewest lines. No program in sight. -/
import Derived.Test.YtpekagagjjhjeaaPlnV
namespace Go.Proofs.Ytpekagagjjhjeaa
open Go.RowKit
set_option linter.unusedVariables false
set_option linter.unusedSimpArgs false

theorem foldT_add : ∀ (l : List Item) (g : Glue), (l.foldl addT g).wd = g.wd + (sumG l).wd ∧ (l.foldl addT g).sh = g.sh + (sumG l).sh
  | [], g => by simp [sumG, Glue.zero]
  | x :: l, g => by
    have h1 := foldT_add l (addT g x)
    have h2 := foldT_add l (addT Glue.zero x)
    simp only [sumG, List.foldl_cons] at h1 h2 ⊢
    have h3 : (addT g x).wd = g.wd + (addT Glue.zero x).wd ∧ (addT g x).sh = g.sh + (addT Glue.zero x).sh := by
      unfold addT
      split
      · simp [Glue.zero]
      · simp [addI, Glue.zero]
    omega

theorem sumG_append (p l : List Item) : (sumG (p ++ l)).wd = (sumG p).wd + (sumG l).wd ∧ (sumG (p ++ l)).sh = (sumG p).sh + (sumG l).sh := by
  have := foldT_add l (sumG p)
  simp only [sumG, List.foldl_append] at this ⊢
  exact this

theorem sumG_less (p l : List Item) (h : ∀ x ∈ p, okT x) : (sumG l).wd ≤ (sumG (p ++ l)).wd ∧ (sumG l).wd - (sumG l).sh ≤ (sumG (p ++ l)).wd - (sumG (p ++ l)).sh := by
  have h1 := sumG_append p l
  have h2 := sumG_bd p h
  omega

theorem sumG_suffix : ∀ (a l : List Item), (∀ x ∈ a ++ l, okT x) → (sumG (l.dropWhile notBox)).wd ≤ (sumG ((a ++ l).dropWhile notBox)).wd ∧ (sumG (l.dropWhile notBox)).wd - (sumG (l.dropWhile notBox)).sh ≤ (sumG ((a ++ l).dropWhile notBox)).wd - (sumG ((a ++ l).dropWhile notBox)).sh
  | [], l, h => by simp
  | x :: a, l, h => by
    simp only [List.cons_append, List.dropWhile_cons]
    split
    · exact sumG_suffix a l (fun y hy => h y (by simp only [List.cons_append, List.mem_cons]; exact .inr hy))
    · have e : x :: (a ++ l) = (x :: (a ++ l.takeWhile notBox)) ++ l.dropWhile notBox := by simp
      rw [e]
      refine sumG_less _ _ (fun y hy => h y ?_)
      simp only [List.mem_cons, List.mem_append] at hy
      simp only [List.cons_append, List.mem_cons, List.mem_append]
      rcases hy with hy | hy | hy
      · exact .inl hy
      · exact .inr (.inl hy)
      · exact .inr (.inr ((List.takeWhile_sublist _).subset hy))

/-- All widths together. -/
def sumW (l : List Item) : Int := l.foldr (fun x s => x.sz.wd + s) 0

theorem sumW_append (a b : List Item) : sumW (a ++ b) = sumW a + sumW b := by
  induction a with
  | nil => simp [sumW]
  | cons x a ih => simp only [sumW, List.cons_append, List.foldr_cons] at ih ⊢; omega

theorem sumW_nn {l : List Item} (h : ∀ x ∈ l, okT x) : 0 ≤ sumW l := by
  induction l with
  | nil => simp [sumW]
  | cons x l ih =>
    have h1 := h x (by simp)
    have h2 := ih (fun y hy => h y (by simp [hy]))
    unfold okT at h1
    simp only [sumW, List.foldr_cons] at h2 ⊢
    omega

theorem sumG_sumW {l : List Item} (h : ∀ x ∈ l, okT x) : (sumG l).wd ≤ sumW l := by
  induction l with
  | nil => simp [sumG, sumW, Glue.zero]
  | cons x l ih =>
    have h1 := h x (by simp)
    have h2 := ih (fun y hy => h y (by simp [hy]))
    have h3 := (sumG_append [x] l).1
    have h4 : (sumG [x]).wd ≤ x.sz.wd := by
      unfold okT at h1
      simp only [sumG, List.foldl_cons, List.foldl_nil, addT]
      split
      · simp [Glue.zero]; omega
      · simp [addI, Glue.zero]
    simp only [List.cons_append, List.nil_append] at h3
    simp only [sumW, List.foldr_cons] at h2 ⊢
    omega

theorem seg_sumW {xs : List Item} {f t : Int} (h : ∀ x ∈ xs, okT x) : (sumG ((seg xs f t).dropWhile notBox)).wd ≤ sumW xs := by
  have e1 : xs = (xs.take t.toNat) ++ xs.drop t.toNat := (List.take_append_drop _ _).symm
  have e2 : xs.take t.toNat = (xs.take t.toNat).take (f + 1).toNat ++ seg xs f t := (List.take_append_drop _ _).symm
  have e3 : seg xs f t = (seg xs f t).takeWhile notBox ++ (seg xs f t).dropWhile notBox := List.takeWhile_append_dropWhile.symm
  have ok2 : ∀ x ∈ (seg xs f t).dropWhile notBox, okT x := fun x hx => h x (mem_seg (mem_dropWhile hx))
  have a1 := sumG_sumW ok2
  have b1 := sumW_append ((seg xs f t).takeWhile notBox) ((seg xs f t).dropWhile notBox)
  have b2 := sumW_append ((xs.take t.toNat).take (f + 1).toNat) (seg xs f t)
  have b3 := sumW_append (xs.take t.toNat) (xs.drop t.toNat)
  rw [← e3] at b1
  rw [← e2] at b2
  rw [← e1] at b3
  have c1 := sumW_nn (l := (seg xs f t).takeWhile notBox) (fun x hx => h x (mem_seg ((List.takeWhile_sublist _).subset hx)))
  have c2 := sumW_nn (l := (xs.take t.toNat).take (f + 1).toNat) (fun x hx => h x (List.mem_of_mem_take (List.mem_of_mem_take hx)))
  have c3 := sumW_nn (l := xs.drop t.toNat) (fun x hx => h x (List.mem_of_mem_drop hx))
  omega

theorem lnGlue_flat {xs : List Item} {f t : Int} (h : ∀ x ∈ xs, okT x) (hp : ∀ x ∈ xs, x.kd = 3 → x.sz.wd ≤ 0) : (lnGlue xs f t).wd = (sumG ((seg xs f t).dropWhile notBox)).wd ∧ (lnGlue xs f t).sh = (sumG ((seg xs f t).dropWhile notBox)).sh := by
  unfold lnGlue
  cases hx : xs[t.toNat]? with
  | none => exact ⟨rfl, rfl⟩
  | some x =>
    have hm := List.mem_of_getElem? hx
    have h1 := h x hm
    unfold okT at h1
    simp only
    split
    · rename_i hk
      have h2 := hp x hm hk
      have h3 : x.sz.wd = 0 := by omega
      exact ⟨by simp only [h3]; exact Int.add_zero _, rfl⟩
    · exact ⟨rfl, rfl⟩

theorem fit_four {g : Glue} {d : Int} (h0 : 0 ≤ g.sh) : (fitI g d).1 = 4 ↔ g.sh < g.wd - d := by
  unfold fitI
  split
  · simp; omega
  · split
    · simp; omega
    · split
      · simp; omega
      · simp; omega

theorem ln_four {xs : List Item} {f t d : Int} (hv : vItems xs = true) (hp : ∀ x ∈ xs, x.kd = 3 → x.sz.wd ≤ 0) (hW : sumW xs ≤ 10000) : (fitLn xs f t d).1 = 4 ↔ (sumG ((seg xs f t).dropWhile notBox)).sh < (sumG ((seg xs f t).dropWhile notBox)).wd - d := by
  have ok : ∀ x ∈ xs, okT x := fun x hx => vItem_ok ((vItems_iff.1 hv).1 x hx)
  have h1 := lnGlue_flat (f := f) (t := t) ok hp
  have h2 := seg_sumW (f := f) (t := t) ok
  have h3 := sumG_bd ((seg xs f t).dropWhile notBox) (fun x hx => ok x (mem_seg (mem_dropWhile hx)))
  have e1 : (clampG (lnGlue xs f t)).wd = (sumG ((seg xs f t).dropWhile notBox)).wd := by
    simp only [clampG]; rw [h1.1, Int.min_eq_left (by omega)]
  have e2 : (clampG (lnGlue xs f t)).sh = (sumG ((seg xs f t).dropWhile notBox)).sh := by
    simp only [clampG]; rw [h1.2, Int.min_eq_left (by omega)]
  unfold fitLn
  rw [fit_four (by rw [e2]; omega), e1, e2]

theorem seg_later {xs : List Item} {f f' t : Int} (h0 : -1 ≤ f) (h : f ≤ f') : ∃ a, seg xs f t = a ++ seg xs f' t := by
  unfold seg
  refine ⟨((xs.take t.toNat).drop (f + 1).toNat).take ((f' + 1).toNat - (f + 1).toNat), ?_⟩
  have := List.take_append_drop ((f' + 1).toNat - (f + 1).toNat) ((xs.take t.toNat).drop (f + 1).toNat)
  rw [List.drop_drop, show (f + 1).toNat + ((f' + 1).toNat - (f + 1).toNat) = (f' + 1).toNat by omega] at this
  exact this.symm

theorem sub_fit {xs : List Item} {f f' t d : Int} (hv : vItems xs = true) (hp : ∀ x ∈ xs, x.kd = 3 → x.sz.wd ≤ 0) (hW : sumW xs ≤ 10000) (h0 : -1 ≤ f) (h : f ≤ f') (hf : (fitLn xs f t d).1 ≠ 4) : (fitLn xs f' t d).1 ≠ 4 := by
  have ok : ∀ x ∈ xs, okT x := fun x hx => vItem_ok ((vItems_iff.1 hv).1 x hx)
  intro h4
  rw [ln_four hv hp hW] at h4
  apply hf
  rw [ln_four hv hp hW]
  obtain ⟨a, ha⟩ := seg_later (xs := xs) (t := t) h0 h
  have := sumG_suffix a (seg xs f' t) (fun x hx => ok x (mem_seg (by rw [ha]; exact hx)))
  rw [← ha] at this
  omega

theorem ffTo_ge (xs : List Item) (f d : Int) (h0 : -1 ≤ f) : ∀ (k i : Nat), i < k → lineOk xs f (f + 1 + (i : Int)) = true → (fitLn xs f (f + 1 + (i : Int)) d).1 ≠ 4 → f + 1 + (i : Int) ≤ (ffTo xs f d k).1
  | 0, i, h, _, _ => by omega
  | k + 1, i, h, hl, hf => by
    rw [ffTo_succ]
    unfold ffStep
    by_cases hi : i < k
    · have ih := ffTo_ge xs f d h0 k i hi hl hf
      split
      · simp only
        split
        · exact ih
        · omega
      · exact ih
    · have : i = k := by omega
      subst this
      rw [if_pos hl]
      simp only [if_neg hf]
      exact Int.le_refl _

theorem next_ge {xs : List Item} {f d t : Int} (h0 : -1 ≤ f) (hl : lineOk xs f t = true) (hf : (fitLn xs f t d).1 ≠ 4) : t ≤ nextFF xs f d := by
  have h1 := lineOk_iff.1 hl
  have := ffTo_ge xs f d h0 ((xs.length : Int) - (f + 1)).toNat (t - (f + 1)).toNat (by omega) (by rw [show f + 1 + (((t - (f + 1)).toNat : Nat) : Int) = t by omega]; exact hl) (by rw [show f + 1 + (((t - (f + 1)).toNat : Nat) : Int) = t by omega]; exact hf)
  rw [show f + 1 + (((t - (f + 1)).toNat : Nat) : Int) = t by omega] at this
  unfold nextFF comb
  rw [if_neg (by omega)]
  exact this

/-- The breaks of first fit, one after the other. -/
theorem ffGo_get {xs : List Item} {d : Int} : ∀ (m : Nat) (f : Int) (k : Nat), k < (ffGo xs d m f).length → ((f :: ffGo xs d m f).getD (k + 1) 0) = nextFF xs ((f :: ffGo xs d m f).getD k 0) d
  | 0, f, k, h => by simp [ffGo] at h
  | m + 1, f, k, h => by
    unfold ffGo at h ⊢
    split at h
    · rename_i hlt
      rw [if_pos hlt]
      cases k with
      | zero => simp
      | succ k =>
        simp only [List.length_cons] at h
        have := ffGo_get (xs := xs) (d := d) m (nextFF xs f d) k (by omega)
        simpa using this
    · simp at h

theorem ff_ahead {xs : List Item} {d : Int} {bs : List Int} (hv : vItems xs = true) (hd : inR d 1 10000 = true) (hp : ∀ x ∈ xs, x.kd = 3 → x.sz.wd ≤ 0) (hW : sumW xs ≤ 10000) (hb : vBreaks xs bs = true) (ho : ∀ i : Nat, i < bs.length → (fitLn xs (frm bs i) (frm bs (i + 1)) d).1 ≠ 4) :
    ∀ k : Nat, k ≤ bs.length → k ≤ (ffList xs d).length → frm bs k ≤ frm (ffList xs d) k
  | 0, _, _ => Int.le_refl _
  | k + 1, h1, h2 => by
    have ih := ff_ahead hv hd hp hW hb ho k (by omega) (by omega)
    have e : ffList xs d = ffGo xs d xs.length (-1) := by rw [ffList, hv, hd]; rfl
    have hn : frm (ffList xs d) (k + 1) = nextFF xs (frm (ffList xs d) k) d := by
      rw [e] at h2 ⊢
      exact ffGo_get (xs := xs) (d := d) xs.length (-1) k (by omega)
    simp only [vBreaks, Bool.and_eq_true] at hb
    have hl := linesTo_get hb.1.2 (show k < bs.length by omega)
    have hfv := ffList_valid hv hd
    simp only [vBreaks, Bool.and_eq_true] at hfv
    have hlf := linesTo_get hfv.1.2 (show k < (ffList xs d).length by omega)
    obtain ⟨a1, a2, a3, a4, a5, a6⟩ := lineOk_iff.1 hl
    obtain ⟨b1, b2, b3, b4, b5, b6⟩ := lineOk_iff.1 hlf
    by_cases hc : frm bs (k + 1) ≤ frm (ffList xs d) k
    · omega
    · have hl2 : lineOk xs (frm (ffList xs d) k) (frm bs (k + 1)) = true := lineOk_iff.2 ⟨by omega, b2, a3, b4, a5, fun j x hx h5 h6 => a6 j x hx (by omega) h6⟩
      rw [hn]
      exact next_ge b2 hl2 (sub_fit hv hp hW a2 ih (ho k (by omega)))

theorem ff_fewest {xs : List Item} {d : Int} {bs : List Int} (hv : vItems xs = true) (hd : inR d 1 10000 = true) (hp : ∀ x ∈ xs, x.kd = 3 → x.sz.wd ≤ 0) (hW : sumW xs ≤ 10000) (hb : vBreaks xs bs = true) (ho : ∀ i : Nat, i < bs.length → (fitLn xs (frm bs i) (frm bs (i + 1)) d).1 ≠ 4) : (ffList xs d).length ≤ bs.length := by
  by_cases h : (ffList xs d).length ≤ bs.length
  · exact h
  · exfalso
    have ha := ff_ahead hv hd hp hW hb ho bs.length (Nat.le_refl _) (by omega)
    have hfv := ffList_valid hv hd
    simp only [vBreaks, Bool.and_eq_true, decide_eq_true_eq] at hb hfv
    have hlf := linesTo_get hfv.1.2 (show bs.length < (ffList xs d).length by omega)
    have := lineOk_iff.1 hlf
    omega

/-- Widths of a drawn paragraph: all but one are small. -/
def Thin (xs : List Item) : Prop := ∃ k : Nat, (∀ (i : Nat) x, xs[i]? = some x → i ≠ k → x.sz.wd ≤ 13) ∧ ∀ (i : Nat) x, xs[i]? = some x → x.sz.wd ≤ 1001

theorem sumW_small {l : List Item} (h : ∀ x ∈ l, x.sz.wd ≤ 13) : sumW l ≤ 13 * l.length := by
  induction l with
  | nil => simp [sumW]
  | cons x l ih =>
    have h1 := h x (by simp)
    have h2 := ih (fun y hy => h y (by simp [hy]))
    simp only [sumW, List.foldr_cons, List.length_cons] at h2 ⊢
    omega

theorem thin_sum {xs : List Item} (h : Thin xs) (hl : xs.length ≤ 23) : sumW xs ≤ 10000 := by
  obtain ⟨k, h1, h2⟩ := h
  by_cases hk : k < xs.length
  · have e : xs = xs.take k ++ xs[k] :: xs.drop (k + 1) := by
      rw [← List.drop_eq_getElem_cons hk, List.take_append_drop]
    have a1 := sumW_small (l := xs.take k) (fun x hx => by
      obtain ⟨i, hi⟩ := List.mem_iff_getElem?.1 hx
      have hil := (List.getElem?_eq_some_iff.1 hi).1
      simp at hil
      rw [List.getElem?_take, if_pos (by omega)] at hi
      exact h1 i x hi (by omega))
    have a2 := sumW_small (l := xs.drop (k + 1)) (fun x hx => by
      obtain ⟨i, hi⟩ := List.mem_iff_getElem?.1 hx
      rw [List.getElem?_drop] at hi
      exact h1 _ x hi (by omega))
    have a3 := h2 k xs[k] (List.getElem?_eq_getElem hk)
    have b := sumW_append (xs.take k) (xs[k] :: xs.drop (k + 1))
    rw [← e] at b
    have c : sumW (xs[k] :: xs.drop (k + 1)) = xs[k].sz.wd + sumW (xs.drop (k + 1)) := rfl
    simp only [List.length_take, List.length_drop] at a1 a2
    omega
  · have := sumW_small (l := xs) (fun x hx => by
      obtain ⟨i, hi⟩ := List.mem_iff_getElem?.1 hx
      have hil := (List.getElem?_eq_some_iff.1 hi).1
      exact h1 i x hi (by omega))
    omega

end Go.Proofs.Ytpekagagjjhjeaa
