/- How wide a paragraph of words is as one line, without patterns. No program in sight. -/
import Derived.Test.YtdenlafdbfbkoaaPlnQ
namespace Go.Proofs.Ytdenlafdbfbkoaa
open Go.RowKit
set_option linter.unusedVariables false
set_option linter.unusedSimpArgs false

/-! ### No pattern divides no word -/
theorem hp_zero (n : Nat) : ∀ (vs : List Int) (k : Nat), (∀ v ∈ vs, v = 0) → hpGo n k vs = []
  | [], k, h => rfl
  | v :: vs, k, h => by
    have h0 := h v List.mem_cons_self
    rw [hpGo, if_neg (by rw [h0]; omega)]
    exact hp_zero n vs (k + 1) (fun x hx => h x (List.mem_cons_of_mem _ hx))

theorem hpR_none (l : List UInt8) : hpR [] l = [] := by
  unfold hpR
  refine hp_zero _ _ _ (fun v hv => ?_)
  unfold hvR at hv
  split at hv
  · unfold hvCut hvRaw at hv
    simp only [hvAll] at hv
    exact (List.mem_replicate.1 (List.mem_of_mem_take (List.mem_of_mem_drop hv))).2
  · cases hv

theorem split_none {l : List UInt8} (hw : wordOk l = true) : splitR l [] = [l] := by
  simp [splitR, hw, splitGo]

theorem wordI_none {f : Fnt} {l : List UInt8} (hw : wordOk l = true) : wordI f [] l = [boxI (wwR f l)] := by
  rw [wordI, hpR_none, split_none hw, partsI, partsI]
  simp

/-! ### The width of a short word -/
theorem gwTo_small {f : Fnt} {l : List Int} (h : FontP f) (hk : ∀ x ∈ f.ks, x.v ≤ 2) : ∀ i : Nat, gwTo f l i ≤ 102 * (i : Int)
  | 0 => by simp [gwTo]
  | i + 1 => by
    have ih := gwTo_small (l := l) h hk i
    rw [gwTo]
    have h1 : f.ws.getD (l.getD i 0).toNat 0 ≤ 100 := by
      simp only [List.getD]
      cases hg : f.ws[(l[i]?.getD 0).toNat]? with
      | none => simp
      | some y => exact (h.2.2.2.2.1 y (List.mem_of_getElem? hg)).2
    have h2 : (if 0 < i then (pval f.ks (l.getD (i - 1) 0) (l.getD i 0)).getD 0 else 0) ≤ 2 := by
      split
      · cases hg : pval f.ks (l.getD (i - 1) 0) (l.getD i 0) with
        | none => simp
        | some v =>
          obtain ⟨p, hp, _, _, rfl⟩ := pval_mem hg
          exact hk p hp
      · omega
    omega

theorem ww_small {f : Fnt} {l : List UInt8} (hf : fontOk f = true) (hk : ∀ x ∈ f.ks, x.v ≤ 2) (hw : wordOk l = true) (hs : l.length ≤ 9) : 0 ≤ wwR f l ∧ wwR f l ≤ 1000 := by
  have hP := fontOk_iff.1 hf
  obtain ⟨a, b, c⟩ := word_iff.1 hw
  have hlen := (glGo_ok hP.lv l [] a (fun x hx => by cases hx)).2
  have := gwTo_small (l := glGo f.ls l []) hP hk (glGo f.ls l []).length
  simp only [List.length_nil] at hlen
  have e : wwR f l = max 0 (gwTo f (glGo f.ls l []) (glGo f.ls l []).length) := by simp [wwR, hf, hw]
  rw [e]
  omega

/-! ### The paragraph without patterns is valid when that with patterns is -/
theorem parts_lenGe (f : Fnt) : ∀ (ps : List (List UInt8)) (k : Nat), ps.length ≤ (partsI f k ps).length
  | [], k => by simp
  | p :: ps, k => by
    have := parts_lenGe f ps (k + 1)
    rw [partsI]
    simp
    omega

theorem word_lenGe (f : Fnt) (ls : List (List UInt8)) {l : List UInt8} (hw : wordOk l = true) : 1 ≤ (wordI f ls l).length := by
  have h1 := parts_lenGe f (splitR l (hpR ls l)) 0
  have h2 : 1 ≤ (splitR l (hpR ls l)).length := by
    obtain ⟨_, h1, _⟩ := word_iff.1 hw
    have key : ∀ (vs : List Int) (k : Nat) (g : Int), 0 ≤ g → g < (k : Int) → g < (l.length : Int) → ∃ r, splitGo l g (hpGo l.length k vs) = some r ∧ 1 ≤ r.length := by
      intro vs
      induction vs with
      | nil => exact fun k g _ _ _ => ⟨[l.drop g.toNat], rfl, by simp⟩
      | cons v vs ih =>
        intro k g h0 h1 h2
        rw [hpGo]
        split
        · rename_i h
          obtain ⟨r, e1, e2⟩ := ih (k + 1) (k : Int) (by omega) (by omega) (by omega)
          refine ⟨cut l g (k : Int) :: r, ?_, by simp⟩
          rw [splitGo, if_neg (by omega), e1]; rfl
        · exact ih (k + 1) g h0 (by omega) h2
    obtain ⟨r, e1, e2⟩ := key (hvR ls l) 1 0 (by omega) (by omega) (by omega)
    have er : splitR l (hpR ls l) = r := by rw [splitR, if_pos hw, hpR, e1]; rfl
    rw [er]
    exact e2
  unfold wordI
  omega

theorem words_less (f : Fnt) (ls : List (List UInt8)) : ∀ (ws : List (List UInt8)) (i : Nat), (∀ u ∈ ws, wordOk u = true) →
    (wordsI f [] i ws).length ≤ (wordsI f ls i ws).length ∧ ∀ x ∈ wordsI f [] i ws, x ∈ wordsI f ls i ws ∨ ∃ l ∈ ws, x = boxI (wwR f l)
  | [], i, h => ⟨Nat.le_refl _, fun x hx => .inl hx⟩
  | l :: r, i, h => by
    have hw := h l List.mem_cons_self
    obtain ⟨a, b⟩ := words_less f ls r (i + 1) (fun u hu => h u (List.mem_cons_of_mem _ hu))
    have hl := word_lenGe f ls hw
    rw [wordsI, wordsI, wordI_none hw]
    refine ⟨by simp only [List.length_append, List.length_cons, List.length_nil]; omega, fun x hx => ?_⟩
    simp only [List.mem_append, List.mem_singleton] at hx
    rcases hx with (hx | rfl) | hx
    · exact .inl (by simp only [List.mem_append]; exact .inl (.inl hx))
    · exact .inr ⟨l, List.mem_cons_self, rfl⟩
    · rcases b x hx with hb | ⟨u, hu, e⟩
      · exact .inl (by simp only [List.mem_append]; exact .inr hb)
      · exact .inr ⟨u, List.mem_cons_of_mem _ hu, e⟩

theorem box_ok {n : Int} (h : 0 ≤ n ∧ n ≤ 1000) : vItem (boxI n) = true := by
  simp [vItem, boxI, inR, h.1, h.2]

theorem bp_none {f : Fnt} {ls ws : List (List UInt8)} (h : bpOk f ls ws = true) (hk : ∀ x ∈ f.ks, x.v ≤ 2) (hs : ∀ u ∈ ws, wordOk u = true → u.length ≤ 9) : bpOk f [] ws = true := by
  simp only [bpOk, Bool.and_eq_true, List.all_eq_true] at h
  obtain ⟨⟨⟨⟨hf, hp⟩, hn⟩, hall⟩, hvi⟩ := h
  refine bp_ok hf rfl hn hall ?_
  obtain ⟨hv, h1, h60, y, hy, hyf⟩ := vItems_iff.1 hvi
  obtain ⟨a, b⟩ := words_less f ls ws 0 hall
  refine vItems_iff.2 ⟨fun x hx => ?_, ?_, ?_, end3, ?_, rfl⟩
  · unfold paraI at hx
    simp only [List.mem_append] at hx
    rcases hx with hx | hx
    · rcases b x hx with hb | ⟨u, hu, rfl⟩
      · exact hv x (by unfold paraI; simp only [List.mem_append]; exact .inl hb)
      · exact box_ok (ww_small hf hk (hall u hu) (hs u hu (hall u hu)))
    · exact hv x (by unfold paraI; simp only [List.mem_append]; exact .inr hx)
  · simp [paraI]
  · simp only [paraI, List.length_append, List.length_cons, List.length_nil] at h60 ⊢
    omega
  · rw [paraI, show wordsI f [] 0 ws ++ [end1, end2, end3] = (wordsI f [] 0 ws ++ [end1, end2]) ++ [end3] by simp]
    rw [List.getElem?_append_right (by simp)]
    simp

/-! ### How wide the one line is -/
def wdS : List Item → Int
  | [] => 0
  | x :: r => (if x.kd = 3 then 0 else x.sz.wd) + wdS r
theorem wdS_app : ∀ (l r : List Item), wdS (l ++ r) = wdS l + wdS r
  | [], r => by simp [wdS]
  | x :: l, r => by
    rw [List.cons_append, wdS, wdS, wdS_app l r]
    omega
theorem foldT_wd : ∀ (l : List Item) (g : Glue), (l.foldl addT g).wd = g.wd + wdS l
  | [], g => by simp [wdS]
  | x :: l, g => by
    rw [List.foldl_cons, foldT_wd l, wdS]
    unfold addT addI
    split <;> simp <;> omega
theorem sumG_wd (l : List Item) : (sumG l).wd = wdS l := by
  unfold sumG
  rw [foldT_wd]
  simp [Glue.zero]

/-- The widths of words, added. -/
noncomputable def sumW (f : Fnt) : List (List UInt8) → Int
  | [] => 0
  | l :: r => wwR f l + sumW f r
theorem sumW_app (f : Fnt) : ∀ (l r : List (List UInt8)), sumW f (l ++ r) = sumW f l + sumW f r
  | [], r => by simp [sumW]
  | x :: l, r => by
    rw [List.cons_append, sumW, sumW, sumW_app f l r]
    omega
theorem sumW_step {f : Fnt} {ws : List (List UInt8)} {i : Nat} {l : List UInt8} (h : ws[i]? = some l) : sumW f (ws.take (i + 1)) = sumW f (ws.take i) + wwR f l := by
  rw [List.take_add_one, h, sumW_app]
  simp [sumW]
theorem sumW_bd (f : Fnt) : ∀ (ws : List (List UInt8)), -(ws.length : Int) ≤ sumW f ws ∧ sumW f ws ≤ 4000 * (ws.length : Int)
  | [] => by simp [sumW]
  | l :: r => by
    have := sumW_bd f r
    have := wwR_bd f l
    rw [sumW]
    simp only [List.length_cons]
    omega

theorem words_wd (f : Fnt) : ∀ (ws : List (List UInt8)) (i : Nat), (∀ u ∈ ws, wordOk u = true) → wdS (wordsI f [] (i + 1) ws) = sumW f ws + (ws.length : Int) * f.sp.wd
  | [], i, h => by simp [wordsI, wdS, sumW]
  | l :: r, i, h => by
    have ih := words_wd f r (i + 1) (fun u hu => h u (List.mem_cons_of_mem _ hu))
    rw [wordsI, wordI_none (h l List.mem_cons_self), wdS_app, wdS_app, ih, sumW, if_pos (by omega)]
    simp only [wdS, gluI, boxI, List.length_cons]
    rw [show ((r.length + 1 : Nat) : Int) = (r.length : Int) + 1 by omega, Int.add_mul]
    simp
    omega

theorem para_line {f : Fnt} {ws : List (List UInt8)} (h : bpOk f [] ws = true) : lineGlueR (paraI f [] ws) (-1) ((paraI f [] ws).length - 1) = (lnGlue (paraI f [] ws) (-1) ((paraI f [] ws).length - 1), true) ∧
    (lnGlue (paraI f [] ws) (-1) ((paraI f [] ws).length - 1)).wd = sumW f ws + ((ws.length : Int) - 1) * f.sp.wd := by
  simp only [bpOk, Bool.and_eq_true, List.all_eq_true] at h
  obtain ⟨⟨⟨⟨hf, hp⟩, hn⟩, hall⟩, hvi⟩ := h
  have hn2 := inR_iff.1 hn
  cases ws with
  | nil => simp at hn2
  | cons l r =>
  have hw := hall l List.mem_cons_self
  have ew : wordsI f [] 0 (l :: r) = boxI (wwR f l) :: wordsI f [] 1 r := by rw [wordsI, wordI_none hw]; simp
  have ep : paraI f [] (l :: r) = (wordsI f [] 0 (l :: r) ++ [end1, end2]) ++ [end3] := by simp [paraI]
  generalize hL : wordsI f [] 0 (l :: r) ++ [end1, end2] = L at ep
  have hlen : ((paraI f [] (l :: r)).length : Int) - 1 = (L.length : Int) := by rw [ep]; simp
  have hlast : (paraI f [] (l :: r))[L.length]? = some end3 := by
    rw [ep, List.getElem?_append_right (Nat.le_refl _)]
    simp
  have hseg : seg (paraI f [] (l :: r)) (-1) (L.length : Int) = L := by
    unfold seg
    rw [ep]
    simp
  have hfree : L.any forced = false := by
    rw [List.any_eq_false]
    intro x hx
    rw [← hL] at hx
    simp only [List.mem_append, List.mem_cons, List.not_mem_nil, or_false] at hx
    have free : ∀ (ws : List (List UInt8)) (i : Nat), (∀ u ∈ ws, wordOk u = true) → ∀ x ∈ wordsI f [] i ws, forced x = false := by
      intro ws
      induction ws with
      | nil => intro i _ x hx; simp [wordsI] at hx
      | cons l r ih =>
        intro i h x hx
        rw [wordsI, wordI_none (h l List.mem_cons_self)] at hx
        simp only [List.mem_append, List.mem_singleton] at hx
        rcases hx with (hx | rfl) | hx
        · split at hx
          · simp only [List.mem_singleton] at hx
            subst hx; rfl
          · cases hx
        · rfl
        · exact ih (i + 1) (fun u hu => h u (List.mem_cons_of_mem _ hu)) x hx
    rcases hx with hx | rfl | rfl
    · simp [free _ 0 hall x hx]
    · simp [end1, forced]
    · simp [end2, forced]
  have hln : lineOk (paraI f [] (l :: r)) (-1) (L.length : Int) = true := by
    unfold lineOk
    rw [hseg, hfree]
    have hb : brk (paraI f [] (l :: r)) (L.length : Int) = true := brk_iff.2 ⟨by omega, by omega, by
      unfold brkN
      rw [Int.toNat_natCast, hlast]
      simp [end3]⟩
    rw [hb]
    simp
    omega
  have hdw : L.dropWhile notBox = L := by
    rw [← hL, ew]
    simp [notBox, boxI]
  rw [hlen]
  refine ⟨by simp [lineGlueR, hvi, hln], ?_⟩
  have e1 : (lnGlue (paraI f [] (l :: r)) (-1) (L.length : Int)).wd = (sumG L).wd + 0 := by
    simp [lnGlue, hlast, end3, hseg, hdw]
  rw [e1, sumG_wd, ← hL, ew, wdS_app, wdS, words_wd f r 0 (fun u hu => hall u (List.mem_cons_of_mem _ hu)), sumW]
  simp [wdS, boxI, end1, end2]
  omega

end Go.Proofs.Ytdenlafdbfbkoaa
