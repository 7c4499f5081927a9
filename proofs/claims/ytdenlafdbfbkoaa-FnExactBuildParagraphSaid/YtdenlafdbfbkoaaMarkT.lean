/- Marks on items; own slices that are marked. -/
import Derived.Test.YtdenlafdbfbkoaaMark
namespace Go.Proofs.Ytdenlafdbfbkoaa
open Go.RowKit
set_option linter.unusedVariables false
set_option linter.unusedSimpArgs false
theorem Ow.wr2 {α : Type} {w : World} {base : Nat} {e : TypeId} {sz : Nat} {enc : α → List Value} {A : Option Addr} {c : Nat} {xs : List α} (h : Ow w base e sz enc A c xs) (b0 : Nat) (hb : b0 < base) (hz : base ≤ w.heap.size) : ∃ b, (b = b0 ∨ base ≤ b) ∧ b < w.heap.size ∧ Wr w A xs.length sz b (xs.flatMap enc) := by
  rcases h.row.2 with ⟨_, h0⟩ | ⟨q, cap, cur, he, hb, hg, hle, hm, hsz, htk⟩
  · exact ⟨b0, .inl rfl, by omega, .inl h0⟩
  · refine ⟨q, .inr hb, (Array.getElem?_eq_some_iff.1 hg).1, .inr ⟨by cases he; rfl, cur.toList, ⟨e, by simpa using hg⟩, ?_, htk⟩⟩
    simp only [Array.length_toList, hsz]
    exact Nat.mul_le_mul_right _ hle

set_option maxHeartbeats 1000000
attribute [local irreducible] W WL QV ST RV Th Bl fnPost Cs Bx pp ea Calls
set_option maxRecDepth 100000

/-- The mark on an item. -/
def mkT (k : Int) (i : Nat) : Item := ⟨k + 6 * (i : Int), ⟨k + 6 * (i : Int) + 1, k + 6 * (i : Int) + 1 + 1, k + 6 * (i : Int) + 1 + 1 + 1⟩, k + 6 * (i : Int) + 1 + 1 + 1 + 1, (k + 6 * (i : Int) + 1 + 1 + 1 + 1 + 1) % 3 == 0⟩
def cntT (k : Int) (n : Nat) : List Item := (List.range n).map (mkT k)
theorem cntT_len (k : Int) (n : Nat) : (cntT k n).length = n := by simp [cntT]
theorem cntT_get {k : Int} {n i : Nat} (h : i < n) : (cntT k n)[i]? = some (mkT k i) := by simp [cntT, h]

theorem flatT_len (xs : List Item) : (xs.flatMap encT).length = xs.length * 6 := by
  induction xs with
  | nil => simp
  | cons x xs ih => simp only [List.flatMap_cons, List.length_append, ih, List.length_cons, Nat.add_mul]; simp [encT]; omega

theorem splice6 {ds : List Value} {o : Nat} {a b c d e f : Value} (h : o + 6 ≤ ds.length) :
    splice (splice (splice (splice (splice (splice ds o [a]) (o + 1) [b]) (o + 2) [c]) (o + 3) [d]) (o + 4) [e]) (o + 5) [f] = splice ds o [a, b, c, d, e, f] := by
  have e1 := splice_splice (ds := ds) (o := o) (us := [a]) (vs := [b]) (by simp; omega)
  have e2 := splice_splice (ds := ds) (o := o) (us := [a, b]) (vs := [c]) (by simp; omega)
  have e3 := splice_splice (ds := ds) (o := o) (us := [a, b, c]) (vs := [d]) (by simp; omega)
  have e4 := splice_splice (ds := ds) (o := o) (us := [a, b, c, d]) (vs := [e]) (by simp; omega)
  have e5 := splice_splice (ds := ds) (o := o) (us := [a, b, c, d, e]) (vs := [f]) (by simp; omega)
  simp only [List.length_cons, List.length_nil, Nat.zero_add, List.cons_append, List.nil_append, Nat.reduceAdd] at e1 e2 e3 e4 e5
  rw [e1, e2, e3, e4, e5]

theorem laws_markItemS (B : Option Addr) (n c b : Nat) (k : Int) (cs : List Value) (w : World) (hW : Wr w B n 6 b cs) (h0 : 0 ≤ k) (h1 : k ≤ 1000000000000) (hn : n ≤ 1000000000) :
    Calls Try.prog 33 #[.slice B n c, .int .i64 k] w fun e w' => e = .returned (.int .i64 (k + 6 * (n : Int))) ∧ Fr b w w' ∧ w.heap.size = w'.heap.size ∧ Wr w' B n 6 b ((cntT k n).flatMap encT) := by
  refine calls_W Try.func33 rfl Try.ntmps33 rfl ?_
  repeat' (first | refine wl_nil ?_ | refine Th_normal ?_ | refine W_seq ?_ | refine W_region ?_ | refine W_condT rfl ?_ | refine W_condF rfl ?_ | refine W_block ?_ | refine W_ret ?_ | refine W_exit ?_ | refine W_skip ?_ | refine Th_ret ?_ | refine Th_exit ?_ | refine Bl_normal ?_ | refine Bl_ret ?_ | refine Bl_exit rfl ?_ | refine Bl_pass rfl ?_ | refine W_condB rfl (fun tt => ?_) (fun tt => ?_) | (show fnPost _ _ _ _ _ _ _; refine fret (rv1 rfl rfl) ?_) | (show WL _ _ _ _ _ _ _; first | refine wl_val rfl rfl (q_pv rfl) ?_ | refine wl_val rfl rfl (q_add rfl rfl (by omega)) ?_ | refine wl_val rfl rfl (q_len rfl) ?_ | refine wl_val rfl rfl (q_lenS rfl) ?_ | refine wl_val rfl rfl (q_fieldAddr rfl) ?_ | refine wl_val rfl rfl (q_indexAddr _ rfl rfl rfl (by omega) (by first | assumption | rfl)) ?_ | refine wl_val rfl rfl (q_indexAddrI rfl rfl (by omega) (by omega) (by first | assumption | rfl)) ?_ | (refine wl_do rfl rfl ?_; first | refine st_store rfl rfl rfl rfl rfl rfl Bx.A (by first | rfl | (rw [Nat.ble_eq]; simp; omega)) (fun w1 g1 z1 f1 => ?_)) | refine wl_val rfl rfl (q_lss1 rfl rfl (by omega)) ?_ | refine wl_val rfl rfl (q_lss0 rfl rfl (by omega)) ?_ | refine wl_lss rfl rfl rfl rfl (fun tt => ?_) (fun tt => ?_) | refine wl_val rfl rfl (q_eql1 rfl rfl (by omega)) ?_ | refine wl_val rfl rfl (q_eql0 rfl rfl (by omega)) ?_ | refine wl_eql rfl rfl rfl rfl (fun tt => ?_) (fun tt => ?_) | refine wl_val rfl rfl (q_eqlB rfl rfl) ?_ | refine wl_val rfl rfl (q_rem rfl rfl (by omega) (by omega)) ?_ | refine wl_val rfl rfl (q_addw rfl rfl) ?_))
  refine W_loop (fun i : Nat => [(5, .int .i64 (i : Int)), (1, .int .i64 (k + 6 * (i : Int))), (0, .slice B n c)]) (fun i w' => Fr b w w' ∧ w.heap.size = w'.heap.size ∧ i ≤ n ∧ (n = 0 ∨ (B = some ⟨b, 0, none⟩ ∧ ∃ ds, Bx w' b ds ∧ n * 6 ≤ ds.length ∧ ds.take (i * 6) = ((cntT k n).take i).flatMap encT))) (fun i => n - i) 0 ⟨rfl, by rw [show k + 6 * ((0 : Nat) : Int) = k by omega]; rfl, rfl, trivial⟩ ⟨Fr.refl _ _, rfl, by omega, hW.imp id fun ⟨q1, ds, q2, q3, q4⟩ => ⟨q1, ds, q2, q3, by simp⟩⟩ ?_
  rintro i w' ⟨g, hz, hi, hB⟩
  by_cases hlt : i < n
  · rcases hB with hB | ⟨rfl, ds, hb, hlen, htk⟩
    · omega
    · repeat' (first | refine wl_nil ?_ | refine Th_normal ?_ | refine W_seq ?_ | refine W_region ?_ | refine W_condT rfl ?_ | refine W_condF rfl ?_ | refine W_block ?_ | refine W_ret ?_ | refine W_exit ?_ | refine W_skip ?_ | refine Th_ret ?_ | refine Th_exit ?_ | refine Bl_normal ?_ | refine Bl_ret ?_ | refine Bl_exit rfl ?_ | refine Bl_pass rfl ?_ | refine W_condB rfl (fun tt => ?_) (fun tt => ?_) | (show fnPost _ _ _ _ _ _ _; refine fret (rv1 rfl rfl) ?_) | (show WL _ _ _ _ _ _ _; first | (refine wl_val rfl rfl ((show QV _ _ _ _ ⟨_, .binOp .eql _ _ _ _, _, _, _, _⟩ _ from q_cmp rfl rfl rfl)) ?_) | (refine wl_do rfl rfl ?_; refine st_store rfl rfl (ea_own _ _) rfl rfl rfl Bx.A (by rw [Nat.ble_eq]; simp [splice]; omega) (fun w1 g1 z1 f1 => ?_)) | refine wl_val rfl rfl (q_pv rfl) ?_ | refine wl_val rfl rfl (q_add rfl rfl (by omega)) ?_ | refine wl_val rfl rfl (q_len rfl) ?_ | refine wl_val rfl rfl (q_lenS rfl) ?_ | refine wl_val rfl rfl (q_fieldAddr rfl) ?_ | refine wl_val rfl rfl (q_indexAddr _ rfl rfl rfl (by omega) (by first | assumption | rfl)) ?_ | refine wl_val rfl rfl (q_indexAddrI rfl rfl (by omega) (by omega) (by first | assumption | rfl)) ?_ | (refine wl_do rfl rfl ?_; first | refine st_store rfl rfl rfl rfl rfl rfl Bx.A (by first | rfl | (rw [Nat.ble_eq]; simp; omega)) (fun w1 g1 z1 f1 => ?_)) | refine wl_val rfl rfl (q_lss1 rfl rfl (by omega)) ?_ | refine wl_val rfl rfl (q_lss0 rfl rfl (by omega)) ?_ | refine wl_lss rfl rfl rfl rfl (fun tt => ?_) (fun tt => ?_) | refine wl_val rfl rfl (q_eql1 rfl rfl (by omega)) ?_ | refine wl_val rfl rfl (q_eql0 rfl rfl (by omega)) ?_ | refine wl_eql rfl rfl rfl rfl (fun tt => ?_) (fun tt => ?_) | refine wl_val rfl rfl (q_eqlB rfl rfl) ?_ | refine wl_val rfl rfl (q_rem rfl rfl (by omega) (by omega)) ?_ | refine wl_val rfl rfl (q_addw rfl rfl) ?_))
      have hst := fill_step (enc := encT) (sz := 6) rfl (cntT_get (k := k) hlt) (by omega) htk
      have hds := splice6 (ds := ds) (o := i * 6) (a := .int .i64 (mkT k i).kd) (b := .int .i64 (mkT k i).sz.wd) (c := .int .i64 (mkT k i).sz.st) (d := .int .i64 (mkT k i).sz.sh) (e := .int .i64 (mkT k i).pen) (f := .bool (mkT k i).fl) (by omega)
      have hl6 := splice_len (cs := ds) (i := i * 6) (vl := encT (mkT k i)) (by simp [encT]; omega)
      rw [show encT (mkT k i) = [.int .i64 (mkT k i).kd, .int .i64 (mkT k i).sz.wd, .int .i64 (mkT k i).sz.st, .int .i64 (mkT k i).sz.sh, .int .i64 (mkT k i).pen, .bool (mkT k i).fl] from rfl, ← hds] at hst hl6
      exact ⟨i + 1, by omega, ⟨Fr.A, by omega, by omega, .inr ⟨rfl, _, f1, by rw [← hl6] at hlen; exact hlen, hst⟩⟩, ⟨rfl, by rw [show k + 6 * ((i + 1 : Nat) : Int) = k + 6 * (i : Int) + 1 + 1 + 1 + 1 + 1 + 1 by omega]; rfl, rfl, trivial⟩⟩
  · obtain rfl : i = n := by omega
    repeat' (first | refine wl_nil ?_ | refine Th_normal ?_ | refine W_seq ?_ | refine W_region ?_ | refine W_condT rfl ?_ | refine W_condF rfl ?_ | refine W_block ?_ | refine W_ret ?_ | refine W_exit ?_ | refine W_skip ?_ | refine Th_ret ?_ | refine Th_exit ?_ | refine Bl_normal ?_ | refine Bl_ret ?_ | refine Bl_exit rfl ?_ | refine Bl_pass rfl ?_ | refine W_condB rfl (fun tt => ?_) (fun tt => ?_) | (show fnPost _ _ _ _ _ _ _; refine fret (rv1 rfl rfl) ?_) | (show WL _ _ _ _ _ _ _; first | refine wl_val rfl rfl (q_pv rfl) ?_ | refine wl_val rfl rfl (q_add rfl rfl (by omega)) ?_ | refine wl_val rfl rfl (q_len rfl) ?_ | refine wl_val rfl rfl (q_lenS rfl) ?_ | refine wl_val rfl rfl (q_fieldAddr rfl) ?_ | refine wl_val rfl rfl (q_indexAddr _ rfl rfl rfl (by omega) (by first | assumption | rfl)) ?_ | refine wl_val rfl rfl (q_indexAddrI rfl rfl (by omega) (by omega) (by first | assumption | rfl)) ?_ | (refine wl_do rfl rfl ?_; first | refine st_store rfl rfl rfl rfl rfl rfl Bx.A (by first | rfl | (rw [Nat.ble_eq]; simp; omega)) (fun w1 g1 z1 f1 => ?_)) | refine wl_val rfl rfl (q_lss1 rfl rfl (by omega)) ?_ | refine wl_val rfl rfl (q_lss0 rfl rfl (by omega)) ?_ | refine wl_lss rfl rfl rfl rfl (fun tt => ?_) (fun tt => ?_) | refine wl_val rfl rfl (q_eql1 rfl rfl (by omega)) ?_ | refine wl_val rfl rfl (q_eql0 rfl rfl (by omega)) ?_ | refine wl_eql rfl rfl rfl rfl (fun tt => ?_) (fun tt => ?_) | refine wl_val rfl rfl (q_eqlB rfl rfl) ?_ | refine wl_val rfl rfl (q_rem rfl rfl (by omega) (by omega)) ?_ | refine wl_val rfl rfl (q_addw rfl rfl) ?_))
    exact ⟨rfl, g, hz, hB.imp id fun ⟨q1, ds, q2, q3, q4⟩ => ⟨q1, ds, q2, q3, by rw [q4, List.take_of_length_le (by rw [cntT_len]; exact Nat.le_refl _)]⟩⟩

theorem Wr.slc {w : World} {B : Option Addr} {n b : Nat} {k : Int} (h : Wr w B n 1 b ((cnt k n).flatMap encI)) : Sl w B 1 encI (cnt k n) := by
  have h2 : Wr w B (cnt k n).length 1 b ((cnt k n).flatMap encI) := by rw [cnt_len]; exact h
  exact h2.sl (fun _ => rfl)

end Go.Proofs.Ytdenlafdbfbkoaa
