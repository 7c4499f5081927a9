/- The laws' own helpers on texts: marks and comparisons. -/
import Derived.Test.YtdenlafdbfbkoaaStr
import Derived.Test.YtdenlafdbfbkoaaEnc
import Derived.Laws.Cells
import Derived.Laws.BitsLemmas
import Derived.Test.YtdenlafdbfbkoaaMark
namespace Go.Proofs.Ytdenlafdbfbkoaa
open Go.RowKit
set_option linter.unusedVariables false
set_option linter.unusedSimpArgs false

section
variable {P : Program} {n : Nat} {s : St} {w : World} {d : Option Tmp} {ty : TypeId} {pos : String} {af : Array Edge} {g : Option (Nat × Bool)}

def asBytes (ns : List Int) : List UInt8 := ns.map fun z => UInt8.ofNat z.toNat

theorem push_fold : ∀ (ns : List Int) (l : List UInt8), ns.foldl (fun (r : ByteArray) z => r.push (UInt8.ofNat z.toNat)) ⟨l.toArray⟩ = ⟨(l ++ asBytes ns).toArray⟩
  | [], l => by simp [asBytes]
  | z :: ns, l => by
    simp only [List.foldl_cons]
    have e : (⟨l.toArray⟩ : ByteArray).push (UInt8.ofNat z.toNat) = ⟨(l ++ [UInt8.ofNat z.toNat]).toArray⟩ := by
      simp [ByteArray.push]
    rw [e, push_fold ns]
    simp [asBytes]

theorem q_convBS {x : Operand} {t1 t2 e : TypeId} [hk : KSl P t1 e] [he : KInt P e .u8] [hd : KStr P t2] {ad : Addr} {m c : Nat} {ns : List Int} (hx : ev s x = some (.slice (some ad) m c)) (hC : Cs w ad (ns.map (Value.int .u8))) (hm : m = ns.length) :
    QV P n s w ⟨d, .convert t1 t2 x, ty, pos, af, g⟩ (str (asBytes ns)) := fun a ha => by
  subst hm
  have hload := run_loadCells_list (P := P) (w := w) ad (ns.map (Value.int .u8)) (fun j v h => hC j v h)
  rw [List.length_map] at hload
  have hr := run_bytesToString (P := P) w ad ns.length c ns hload
  have hf := push_fold ns []
  simp only [List.nil_append] at hf
  have hconv := run_convert_bytes_string (P := P) w t1 t2 e (some ad) ns.length c hk.h he.h hd.h
  simp only [execOp, ha.ev hx, Sem.run_bind]
  rw [hconv, hr]
  have e0 : (ByteArray.empty : ByteArray) = ⟨([] : List UInt8).toArray⟩ := rfl
  rw [e0, hf]
  rfl

theorem q_convB {x : Operand} {t1 t2 : TypeId} [h1 : KInt P t1 .i64] [h2 : KInt P t2 .u8] {i : Int} (hx : ev s x = some (.int .i64 i)) (h0 : 0 ≤ i) (hi : i < 256) :
    QV P n s w ⟨d, .convert t1 t2 x, ty, pos, af, g⟩ (.int .u8 i) := q_conv hx (by
  rw [IntKind.wrap_u8]
  omega)
end

/-- The text of a mark. -/
def dgs : Nat → Int → List UInt8 → List UInt8
  | 0, _, acc => acc
  | m + 1, n, acc => if 0 < n then dgs m (n / 10) (asBytes [48 + n % 10] ++ acc) else acc
def mtx (k : Int) : List UInt8 := if k ≤ 0 then [109, 48] else [109] ++ dgs k.toNat k []

theorem dgs_step {m : Nat} {n : Int} {acc : List UInt8} (h : 0 < n) (hm : n ≤ m) : dgs m n acc = dgs (m - 1) (n / 10) (asBytes [48 + n % 10] ++ acc) := by
  obtain ⟨k, rfl⟩ : ∃ k, m = k + 1 := ⟨m - 1, by omega⟩
  rw [dgs, if_pos h]
  rfl
theorem dgs_end {m : Nat} {n : Int} {acc : List UInt8} (h : ¬ 0 < n) : dgs m n acc = acc := by
  cases m with
  | zero => rfl
  | succ m => rw [dgs, if_neg h]

def cntS (k : Int) (n : Nat) : List (List UInt8) := (List.range n).map fun i : Nat => mtx (k + (i : Int))
theorem cntS_len (k : Int) (n : Nat) : (cntS k n).length = n := by simp [cntS]
theorem cntS_get {k : Int} {n i : Nat} (h : i < n) : (cntS k n)[i]? = some (mtx (k + (i : Int))) := by simp [cntS, h]

theorem Wr.slS {w : World} {B : Option Addr} {n b : Nat} {k : Int} (h : Wr w B n 1 b ((cntS k n).flatMap encS)) : Sl w B 1 encS (cntS k n) := by
  have h2 : Wr w B (cntS k n).length 1 b ((cntS k n).flatMap encS) := by rw [cntS_len]; exact h
  exact h2.sl (fun _ => rfl)

set_option maxHeartbeats 1000000
attribute [local irreducible] W WL QV ST RV Th Bl fnPost Cs Bx pp ea Calls
set_option maxRecDepth 100000

theorem laws_markText (k : Int) (w : World) (h1 : k ≤ 2000000000000) :
    Calls Try.prog 78 #[.int .i64 k] w fun e w' => e = .returned (str (mtx k)) ∧ Gr w w' := by
  by_cases h0 : k ≤ 0
  · have e : mtx k = [109, 48] := by rw [mtx, if_pos h0]
    rw [e]
    refine calls_W Try.func78 rfl Try.ntmps78 rfl ?_
    repeat' (first | refine wl_nil ?_ | refine Th_normal ?_ | refine W_seq ?_ | refine W_region ?_ | refine W_condT rfl ?_ | refine W_condF rfl ?_ | refine W_block ?_ | refine W_ret ?_ | refine W_exit ?_ | refine W_skip ?_ | refine Th_ret ?_ | refine Th_exit ?_ | refine Bl_normal ?_ | refine Bl_ret ?_ | refine Bl_exit rfl ?_ | refine Bl_pass rfl ?_ | refine W_condB rfl (fun tt => ?_) (fun tt => ?_) | (show fnPost _ _ _ _ _ _ _; refine fret (rv1 rfl rfl) ?_) | (show WL _ _ _ _ _ _ _; first | refine wl_val rfl rfl (q_pv rfl) ?_ | refine wl_val rfl rfl (q_add rfl rfl (by omega)) ?_ | (refine wl_do rfl rfl ?_; first | refine st_buildSlice rfl rfl rfl (fun b w1 e1 g1 z1 f1 => ?_)) | refine wl_val rfl rfl (q_leq1 rfl rfl (by omega)) ?_ | refine wl_val rfl rfl (q_leq0 rfl rfl (by omega)) ?_ | refine wl_leq rfl rfl rfl rfl (fun tt => ?_) (fun tt => ?_) | refine wl_val rfl rfl (q_gtr1 rfl rfl (by omega)) ?_ | refine wl_val rfl rfl (q_gtr0 rfl rfl (by omega)) ?_ | refine wl_gtr rfl rfl rfl rfl (fun tt => ?_) (fun tt => ?_) | refine wl_val rfl rfl (q_quo rfl rfl (by omega) (by omega) (by omega)) ?_ | refine wl_val rfl rfl (q_rem rfl rfl (by omega) (by omega)) ?_ | refine wl_val rfl rfl (q_conv rfl (IntWalk.i64_in _ (by omega))) ?_ | refine wl_val rfl rfl (q_addw rfl rfl) ?_))
    exact ⟨rfl, Gr.A⟩
  · have e : mtx k = [109] ++ dgs k.toNat k [] := by rw [mtx, if_neg h0]
    rw [e]
    refine calls_W Try.func78 rfl Try.ntmps78 rfl ?_
    repeat' (first | refine wl_nil ?_ | refine Th_normal ?_ | refine W_seq ?_ | refine W_region ?_ | refine W_condT rfl ?_ | refine W_condF rfl ?_ | refine W_block ?_ | refine W_ret ?_ | refine W_exit ?_ | refine W_skip ?_ | refine Th_ret ?_ | refine Th_exit ?_ | refine Bl_normal ?_ | refine Bl_ret ?_ | refine Bl_exit rfl ?_ | refine Bl_pass rfl ?_ | refine W_condB rfl (fun tt => ?_) (fun tt => ?_) | (show fnPost _ _ _ _ _ _ _; refine fret (rv1 rfl rfl) ?_) | (show WL _ _ _ _ _ _ _; first | refine wl_val rfl rfl (q_pv rfl) ?_ | refine wl_val rfl rfl (q_add rfl rfl (by omega)) ?_ | (refine wl_do rfl rfl ?_; first | refine st_buildSlice rfl rfl rfl (fun b w1 e1 g1 z1 f1 => ?_)) | refine wl_val rfl rfl (q_leq1 rfl rfl (by omega)) ?_ | refine wl_val rfl rfl (q_leq0 rfl rfl (by omega)) ?_ | refine wl_leq rfl rfl rfl rfl (fun tt => ?_) (fun tt => ?_) | refine wl_val rfl rfl (q_gtr1 rfl rfl (by omega)) ?_ | refine wl_val rfl rfl (q_gtr0 rfl rfl (by omega)) ?_ | refine wl_gtr rfl rfl rfl rfl (fun tt => ?_) (fun tt => ?_) | refine wl_val rfl rfl (q_quo rfl rfl (by omega) (by omega) (by omega)) ?_ | refine wl_val rfl rfl (q_rem rfl rfl (by omega) (by omega)) ?_ | refine wl_val rfl rfl (q_conv rfl (IntWalk.i64_in _ (by omega))) ?_ | refine wl_val rfl rfl (q_addw rfl rfl) ?_))
    refine W_loop3 (fun (n : Int) (m : Nat) (acc : List UInt8) => [(0, .int .i64 n), (3, str acc)]) (fun n m acc w' => Gr w w' ∧ 0 ≤ n ∧ n ≤ k ∧ n ≤ m ∧ (m : Int) + acc.length ≤ k ∧ dgs k.toNat k [] = dgs m n acc) (fun n _ _ => n.toNat) k k.toNat [] ⟨rfl, rfl, trivial⟩ ⟨Gr.A, by omega, by omega, by omega, by simp; omega, rfl⟩ ?_
    rintro n m acc w' ⟨g, i0, i1, i2, i3, eD⟩
    by_cases hn : 0 < n
    · have hst := dgs_step (acc := acc) hn i2
      repeat' (first | refine wl_nil ?_ | refine Th_normal ?_ | refine W_seq ?_ | refine W_region ?_ | refine W_condT rfl ?_ | refine W_condF rfl ?_ | refine W_block ?_ | refine W_ret ?_ | refine W_exit ?_ | refine W_skip ?_ | refine Th_ret ?_ | refine Th_exit ?_ | refine Bl_normal ?_ | refine Bl_ret ?_ | refine Bl_exit rfl ?_ | refine Bl_pass rfl ?_ | refine W_condB rfl (fun tt => ?_) (fun tt => ?_) | (show fnPost _ _ _ _ _ _ _; refine fret (rv1 rfl rfl) ?_) | (show WL _ _ _ _ _ _ _; first | (refine wl_val rfl rfl (q_rem rfl rfl (by omega) (by omega)) ?_) | (refine wl_val rfl rfl (q_quo rfl rfl (by omega) (by omega) (by omega)) ?_) | (refine wl_val rfl rfl (q_convB rfl (by omega) (by omega)) ?_) | (refine wl_val rfl rfl (q_convBS (ns := [48 + n % 10]) rfl (Bx.cs Bx.A) rfl) ?_) | (refine wl_val rfl rfl (q_catT rfl rfl (by simp [asBytes]; omega)) ?_) | refine wl_val rfl rfl (q_pv rfl) ?_ | refine wl_val rfl rfl (q_add rfl rfl (by omega)) ?_ | (refine wl_do rfl rfl ?_; first | refine st_buildSlice rfl rfl rfl (fun b w1 e1 g1 z1 f1 => ?_)) | refine wl_val rfl rfl (q_leq1 rfl rfl (by omega)) ?_ | refine wl_val rfl rfl (q_leq0 rfl rfl (by omega)) ?_ | refine wl_leq rfl rfl rfl rfl (fun tt => ?_) (fun tt => ?_) | refine wl_val rfl rfl (q_gtr1 rfl rfl (by omega)) ?_ | refine wl_val rfl rfl (q_gtr0 rfl rfl (by omega)) ?_ | refine wl_gtr rfl rfl rfl rfl (fun tt => ?_) (fun tt => ?_) | refine wl_val rfl rfl (q_quo rfl rfl (by omega) (by omega) (by omega)) ?_ | refine wl_val rfl rfl (q_rem rfl rfl (by omega) (by omega)) ?_ | refine wl_val rfl rfl (q_conv rfl (IntWalk.i64_in _ (by omega))) ?_ | refine wl_val rfl rfl (q_addw rfl rfl) ?_))
      exact ⟨n / 10, m - 1, _, by omega, ⟨Gr.A, by omega, by omega, by omega, by simp [asBytes]; omega, by rw [eD, hst]⟩, ⟨rfl, rfl, trivial⟩⟩
    · rw [dgs_end hn] at eD
      repeat' (first | refine wl_nil ?_ | refine Th_normal ?_ | refine W_seq ?_ | refine W_region ?_ | refine W_condT rfl ?_ | refine W_condF rfl ?_ | refine W_block ?_ | refine W_ret ?_ | refine W_exit ?_ | refine W_skip ?_ | refine Th_ret ?_ | refine Th_exit ?_ | refine Bl_normal ?_ | refine Bl_ret ?_ | refine Bl_exit rfl ?_ | refine Bl_pass rfl ?_ | refine W_condB rfl (fun tt => ?_) (fun tt => ?_) | (show fnPost _ _ _ _ _ _ _; refine fret (rv1 rfl rfl) ?_) | (show WL _ _ _ _ _ _ _; first | (refine wl_val rfl rfl (q_catT (l := [109]) (m := acc) rfl rfl (by simp; omega)) ?_) | refine wl_val rfl rfl (q_pv rfl) ?_ | refine wl_val rfl rfl (q_add rfl rfl (by omega)) ?_ | (refine wl_do rfl rfl ?_; first | refine st_buildSlice rfl rfl rfl (fun b w1 e1 g1 z1 f1 => ?_)) | refine wl_val rfl rfl (q_leq1 rfl rfl (by omega)) ?_ | refine wl_val rfl rfl (q_leq0 rfl rfl (by omega)) ?_ | refine wl_leq rfl rfl rfl rfl (fun tt => ?_) (fun tt => ?_) | refine wl_val rfl rfl (q_gtr1 rfl rfl (by omega)) ?_ | refine wl_val rfl rfl (q_gtr0 rfl rfl (by omega)) ?_ | refine wl_gtr rfl rfl rfl rfl (fun tt => ?_) (fun tt => ?_) | refine wl_val rfl rfl (q_quo rfl rfl (by omega) (by omega) (by omega)) ?_ | refine wl_val rfl rfl (q_rem rfl rfl (by omega) (by omega)) ?_ | refine wl_val rfl rfl (q_conv rfl (IntWalk.i64_in _ (by omega))) ?_ | refine wl_val rfl rfl (q_addw rfl rfl) ?_))
      exact ⟨by rw [eD], Gr.A⟩

theorem laws_markStringS (B : Option Addr) (n c b : Nat) (k : Int) (cs : List Value) (w : World) (hW : Wr w B n 1 b cs) (hb : b ≤ w.heap.size ∧ (n ≠ 0 → b < w.heap.size)) (h0 : 0 ≤ k) (h1 : k ≤ 1000000000000) (hn : n ≤ 1000000000) :
    Calls Try.prog 32 #[.slice B n c, .int .i64 k] w fun e w' => e = .returned (.int .i64 (k + (n : Int))) ∧ Fr b w w' ∧ w.heap.size ≤ w'.heap.size ∧ Wr w' B n 1 b ((cntS k n).flatMap encS) := by
  refine calls_W Try.func32 rfl Try.ntmps32 rfl ?_
  repeat' (first | refine wl_nil ?_ | refine Th_normal ?_ | refine W_seq ?_ | refine W_region ?_ | refine W_condT rfl ?_ | refine W_condF rfl ?_ | refine W_block ?_ | refine W_ret ?_ | refine W_exit ?_ | refine W_skip ?_ | refine Th_ret ?_ | refine Th_exit ?_ | refine Bl_normal ?_ | refine Bl_ret ?_ | refine Bl_exit rfl ?_ | refine Bl_pass rfl ?_ | refine W_condB rfl (fun tt => ?_) (fun tt => ?_) | (show fnPost _ _ _ _ _ _ _; refine fret (rv1 rfl rfl) ?_) | (show WL _ _ _ _ _ _ _; first | refine wl_val rfl rfl (q_pv rfl) ?_ | refine wl_val rfl rfl (q_add rfl rfl (by omega)) ?_ | refine wl_val rfl rfl (q_len rfl) ?_ | refine wl_val rfl rfl (q_lenS rfl) ?_ | refine wl_val rfl rfl (q_indexAddr _ rfl rfl rfl (by omega) (by first | assumption | rfl)) ?_ | refine wl_val rfl rfl (q_indexAddrI rfl rfl (by omega) (by omega) (by first | assumption | rfl)) ?_ | (refine wl_do rfl rfl ?_; first | refine st_store rfl rfl rfl rfl rfl rfl Bx.A (by first | rfl | (rw [Nat.ble_eq]; simp; omega)) (fun w1 g1 z1 f1 => ?_)) | refine wl_val rfl rfl (q_lss1 rfl rfl (by omega)) ?_ | refine wl_val rfl rfl (q_lss0 rfl rfl (by omega)) ?_ | refine wl_lss rfl rfl rfl rfl (fun tt => ?_) (fun tt => ?_) | refine wl_val rfl rfl (q_addw rfl rfl) ?_))
  refine W_loop (fun i : Nat => [(5, .int .i64 (i : Int)), (1, .int .i64 (k + (i : Int))), (0, .slice B n c)]) (fun i w' => Fr b w w' ∧ w.heap.size ≤ w'.heap.size ∧ i ≤ n ∧ (n = 0 ∨ (B = some ⟨b, 0, none⟩ ∧ ∃ ds, Bx w' b ds ∧ n * 1 ≤ ds.length ∧ ds.take (i * 1) = ((cntS k n).take i).flatMap encS))) (fun i => n - i) 0 ⟨rfl, by rw [show k + ((0 : Nat) : Int) = k by omega]; rfl, rfl, trivial⟩ ⟨Fr.refl _ _, Nat.le_refl _, by omega, hW.imp id fun ⟨q1, ds, q2, q3, q4⟩ => ⟨q1, ds, q2, q3, by simp⟩⟩ ?_
  rintro i w' ⟨g, hz, hi, hB⟩
  by_cases hlt : i < n
  · rcases hB with hB | ⟨rfl, ds, hb2, hlen, htk⟩
    · omega
    · have hbl := hb2.lt
      repeat' (first | refine wl_nil ?_ | refine Th_normal ?_ | refine W_seq ?_ | refine W_region ?_ | refine W_condT rfl ?_ | refine W_condF rfl ?_ | refine W_block ?_ | refine W_ret ?_ | refine W_exit ?_ | refine W_skip ?_ | refine Th_ret ?_ | refine Th_exit ?_ | refine Bl_normal ?_ | refine Bl_ret ?_ | refine Bl_exit rfl ?_ | refine Bl_pass rfl ?_ | refine W_condB rfl (fun tt => ?_) (fun tt => ?_) | (show fnPost _ _ _ _ _ _ _; refine fret (rv1 rfl rfl) ?_) | (show WL _ _ _ _ _ _ _; first | (refine wl_do (op := .call { callee := .value (.func 78), args := _, argTypes := _ }) rfl rfl ?_; refine st_callV Try.func78 rfl rfl rfl (laws_markText _ _ (by omega)) (fun w1 g1 z1 => ?_)) | (refine wl_do rfl rfl ?_; refine st_store rfl rfl (ea_own _ _) rfl rfl rfl Bx.A (by rw [Nat.ble_eq]; simp; omega) (fun w1 g1 z1 f1 => ?_)) | refine wl_val rfl rfl (q_pv rfl) ?_ | refine wl_val rfl rfl (q_add rfl rfl (by omega)) ?_ | refine wl_val rfl rfl (q_len rfl) ?_ | refine wl_val rfl rfl (q_lenS rfl) ?_ | refine wl_val rfl rfl (q_indexAddr _ rfl rfl rfl (by omega) (by first | assumption | rfl)) ?_ | refine wl_val rfl rfl (q_indexAddrI rfl rfl (by omega) (by omega) (by first | assumption | rfl)) ?_ | (refine wl_do rfl rfl ?_; first | refine st_store rfl rfl rfl rfl rfl rfl Bx.A (by first | rfl | (rw [Nat.ble_eq]; simp; omega)) (fun w1 g1 z1 f1 => ?_)) | refine wl_val rfl rfl (q_lss1 rfl rfl (by omega)) ?_ | refine wl_val rfl rfl (q_lss0 rfl rfl (by omega)) ?_ | refine wl_lss rfl rfl rfl rfl (fun tt => ?_) (fun tt => ?_) | refine wl_val rfl rfl (q_addw rfl rfl) ?_))
      have hst := fill_step (enc := encS) (sz := 1) rfl (cntS_get (k := k) hlt) (by omega) htk
      exact ⟨i + 1, by omega, ⟨Fr.A, by omega, by omega, .inr ⟨rfl, _, f1, by rw [Nat.add_zero, splice_len (by simp; omega)]; exact hlen, hst⟩⟩, ⟨rfl, by rw [show k + ((i + 1 : Nat) : Int) = k + (i : Int) + 1 by omega]; rfl, rfl, trivial⟩⟩
  · obtain rfl : i = n := by omega
    repeat' (first | refine wl_nil ?_ | refine Th_normal ?_ | refine W_seq ?_ | refine W_region ?_ | refine W_condT rfl ?_ | refine W_condF rfl ?_ | refine W_block ?_ | refine W_ret ?_ | refine W_exit ?_ | refine W_skip ?_ | refine Th_ret ?_ | refine Th_exit ?_ | refine Bl_normal ?_ | refine Bl_ret ?_ | refine Bl_exit rfl ?_ | refine Bl_pass rfl ?_ | refine W_condB rfl (fun tt => ?_) (fun tt => ?_) | (show fnPost _ _ _ _ _ _ _; refine fret (rv1 rfl rfl) ?_) | (show WL _ _ _ _ _ _ _; first | refine wl_val rfl rfl (q_pv rfl) ?_ | refine wl_val rfl rfl (q_add rfl rfl (by omega)) ?_ | refine wl_val rfl rfl (q_len rfl) ?_ | refine wl_val rfl rfl (q_lenS rfl) ?_ | refine wl_val rfl rfl (q_indexAddr _ rfl rfl rfl (by omega) (by first | assumption | rfl)) ?_ | refine wl_val rfl rfl (q_indexAddrI rfl rfl (by omega) (by omega) (by first | assumption | rfl)) ?_ | (refine wl_do rfl rfl ?_; first | refine st_store rfl rfl rfl rfl rfl rfl Bx.A (by first | rfl | (rw [Nat.ble_eq]; simp; omega)) (fun w1 g1 z1 f1 => ?_)) | refine wl_val rfl rfl (q_lss1 rfl rfl (by omega)) ?_ | refine wl_val rfl rfl (q_lss0 rfl rfl (by omega)) ?_ | refine wl_lss rfl rfl rfl rfl (fun tt => ?_) (fun tt => ?_) | refine wl_val rfl rfl (q_addw rfl rfl) ?_))
    exact ⟨rfl, g, hz, hB.imp id fun ⟨q1, ds, q2, q3, q4⟩ => ⟨q1, ds, q2, q3, by rw [q4, List.take_of_length_le (by rw [cntS_len]; exact Nat.le_refl _)]⟩⟩

theorem laws_eqStringST (A B : Option Addr) (c d : Nat) (xs : List (List UInt8)) (w : World) (hS : Sl w A 1 encS xs) (hT : Sl w B 1 encS xs) (hl : xs.length ≤ 1048576) :
    Calls Try.prog 30 #[.slice A xs.length c, .slice B xs.length d] w fun e w' => e = .returned (.bool true) ∧ Gr w w' := by
  refine calls_W Try.func30 rfl Try.ntmps30 rfl ?_
  repeat' (first | refine wl_nil ?_ | refine Th_normal ?_ | refine W_seq ?_ | refine W_region ?_ | refine W_condT rfl ?_ | refine W_condF rfl ?_ | refine W_block ?_ | refine W_ret ?_ | refine W_exit ?_ | refine W_skip ?_ | refine Th_ret ?_ | refine Th_exit ?_ | refine Bl_normal ?_ | refine Bl_ret ?_ | refine Bl_exit rfl ?_ | refine Bl_pass rfl ?_ | refine W_condB rfl (fun tt => ?_) (fun tt => ?_) | (show fnPost _ _ _ _ _ _ _; refine fret (rv1 rfl rfl) ?_) | (show WL _ _ _ _ _ _ _; first | refine wl_val rfl rfl (q_pv rfl) ?_ | refine wl_val rfl rfl (q_add rfl rfl (by omega)) ?_ | refine wl_val rfl rfl (q_len rfl) ?_ | refine wl_val rfl rfl (q_lenS rfl) ?_ | refine wl_val rfl rfl (q_indexAddr _ rfl rfl rfl (by omega) (by first | assumption | rfl)) ?_ | refine wl_val rfl rfl (q_indexAddrI rfl rfl (by omega) (by omega) (by first | assumption | rfl)) ?_ | refine wl_val rfl rfl (q_loadA rfl Cs.A (by rfl)) ?_ | refine wl_val rfl rfl (q_load1 rfl Cs.A (by rfl)) ?_ | refine wl_val rfl rfl (q_loadS rfl Cs.A (by rfl) (by rfl)) ?_ | refine wl_val rfl rfl (q_lss1 rfl rfl (by omega)) ?_ | refine wl_val rfl rfl (q_lss0 rfl rfl (by omega)) ?_ | refine wl_lss rfl rfl rfl rfl (fun tt => ?_) (fun tt => ?_) | refine wl_val rfl rfl (q_neq1 rfl rfl (by omega)) ?_ | refine wl_val rfl rfl (q_neq0 rfl rfl (by omega)) ?_ | refine wl_neq rfl rfl rfl rfl (fun tt => ?_) (fun tt => ?_) | refine wl_val rfl rfl (q_neqB rfl rfl) ?_ | refine wl_val rfl rfl (q_addw rfl rfl) ?_) | refine wi_begin (id := 6) (.q 0 (.q 1 (.q 2 (.q 3 (.q 4 (.q 5 (.q 6 (.q 7 (.q 8 .e))))))))) mixed (fun w1 g1 z1 => ?_) | (show WI _ _ _ _ _ _ _ _ _ _; first | refine wq rfl (by kernel_rfl) rfl rfl (fun _ _ => (by first | exact q_pv rfl | exact q_indexAddr _ rfl rfl rfl (by omega) (by first | assumption | rfl) | exact q_indexAddrI rfl rfl (by omega) (by omega) (by first | assumption | rfl) | exact q_loadA rfl Cs.A (by rfl) | exact q_load1 rfl Cs.A (by rfl) | exact q_loadS rfl Cs.A (by rfl) (by rfl) | exact q_neq1 rfl rfl (by omega) | exact q_neq0 rfl rfl (by omega) | exact q_neqB rfl rfl | exact q_neqT rfl rfl | exact q_cmp rfl rfl rfl)) Gr.A ?_ | refine wo (by kernel_rfl) ?_))
  refine W_loop (fun i : Nat => [(5, .int .i64 (i : Int)), (0, .slice A xs.length c), (1, .slice B xs.length d)]) (fun i w' => Gr w w' ∧ i ≤ xs.length) (fun i => xs.length - i) 0 ⟨rfl, rfl, rfl, trivial⟩ ⟨Gr.A, by omega⟩ ?_
  rintro i w' ⟨g, hi⟩
  by_cases hlt : i < xs.length
  · obtain ⟨x, hx⟩ : ∃ x, xs[i]? = some x := ⟨_, List.getElem?_eq_getElem hlt⟩
    have hs := hS.nn (by omega)
    have hs2 := hT.nn (by omega)
    have cx := (hS.el i x hx).gr g
    have cy := (hT.el i x hx).gr g
    repeat' (first | refine wl_nil ?_ | refine Th_normal ?_ | refine W_seq ?_ | refine W_region ?_ | refine W_condT rfl ?_ | refine W_condF rfl ?_ | refine W_block ?_ | refine W_ret ?_ | refine W_exit ?_ | refine W_skip ?_ | refine Th_ret ?_ | refine Th_exit ?_ | refine Bl_normal ?_ | refine Bl_ret ?_ | refine Bl_exit rfl ?_ | refine Bl_pass rfl ?_ | refine W_condB rfl (fun tt => ?_) (fun tt => ?_) | (show fnPost _ _ _ _ _ _ _; refine fret (rv1 rfl rfl) ?_) | (show WL _ _ _ _ _ _ _; first | (refine wl_val rfl rfl (q_neqT rfl rfl) ?_) | refine wl_val rfl rfl (q_pv rfl) ?_ | refine wl_val rfl rfl (q_add rfl rfl (by omega)) ?_ | refine wl_val rfl rfl (q_len rfl) ?_ | refine wl_val rfl rfl (q_lenS rfl) ?_ | refine wl_val rfl rfl (q_indexAddr _ rfl rfl rfl (by omega) (by first | assumption | rfl)) ?_ | refine wl_val rfl rfl (q_indexAddrI rfl rfl (by omega) (by omega) (by first | assumption | rfl)) ?_ | refine wl_val rfl rfl (q_loadA rfl Cs.A (by rfl)) ?_ | refine wl_val rfl rfl (q_load1 rfl Cs.A (by rfl)) ?_ | refine wl_val rfl rfl (q_loadS rfl Cs.A (by rfl) (by rfl)) ?_ | refine wl_val rfl rfl (q_lss1 rfl rfl (by omega)) ?_ | refine wl_val rfl rfl (q_lss0 rfl rfl (by omega)) ?_ | refine wl_lss rfl rfl rfl rfl (fun tt => ?_) (fun tt => ?_) | refine wl_val rfl rfl (q_neq1 rfl rfl (by omega)) ?_ | refine wl_val rfl rfl (q_neq0 rfl rfl (by omega)) ?_ | refine wl_neq rfl rfl rfl rfl (fun tt => ?_) (fun tt => ?_) | refine wl_val rfl rfl (q_neqB rfl rfl) ?_ | refine wl_val rfl rfl (q_addw rfl rfl) ?_) | refine wi_begin (id := 6) (.q 0 (.q 1 (.q 2 (.q 3 (.q 4 (.q 5 (.q 6 (.q 7 (.q 8 .e))))))))) mixed (fun w1 g1 z1 => ?_) | (show WI _ _ _ _ _ _ _ _ _ _; first | refine wq rfl (by kernel_rfl) rfl rfl (fun _ _ => (by first | exact q_pv rfl | exact q_indexAddr _ rfl rfl rfl (by omega) (by first | assumption | rfl) | exact q_indexAddrI rfl rfl (by omega) (by omega) (by first | assumption | rfl) | exact q_loadA rfl Cs.A (by rfl) | exact q_load1 rfl Cs.A (by rfl) | exact q_loadS rfl Cs.A (by rfl) (by rfl) | exact q_neq1 rfl rfl (by omega) | exact q_neq0 rfl rfl (by omega) | exact q_neqB rfl rfl | exact q_neqT rfl rfl | exact q_cmp rfl rfl rfl)) Gr.A ?_ | refine wo (by kernel_rfl) ?_))
    all_goals first
      | exact ⟨i + 1, by omega, ⟨Gr.A, by omega⟩, ⟨rfl, rfl, rfl, trivial⟩⟩
      | (exfalso; simp_all; done)
  · repeat' (first | refine wl_nil ?_ | refine Th_normal ?_ | refine W_seq ?_ | refine W_region ?_ | refine W_condT rfl ?_ | refine W_condF rfl ?_ | refine W_block ?_ | refine W_ret ?_ | refine W_exit ?_ | refine W_skip ?_ | refine Th_ret ?_ | refine Th_exit ?_ | refine Bl_normal ?_ | refine Bl_ret ?_ | refine Bl_exit rfl ?_ | refine Bl_pass rfl ?_ | refine W_condB rfl (fun tt => ?_) (fun tt => ?_) | (show fnPost _ _ _ _ _ _ _; refine fret (rv1 rfl rfl) ?_) | (show WL _ _ _ _ _ _ _; first | refine wl_val rfl rfl (q_pv rfl) ?_ | refine wl_val rfl rfl (q_add rfl rfl (by omega)) ?_ | refine wl_val rfl rfl (q_len rfl) ?_ | refine wl_val rfl rfl (q_lenS rfl) ?_ | refine wl_val rfl rfl (q_indexAddr _ rfl rfl rfl (by omega) (by first | assumption | rfl)) ?_ | refine wl_val rfl rfl (q_indexAddrI rfl rfl (by omega) (by omega) (by first | assumption | rfl)) ?_ | refine wl_val rfl rfl (q_loadA rfl Cs.A (by rfl)) ?_ | refine wl_val rfl rfl (q_load1 rfl Cs.A (by rfl)) ?_ | refine wl_val rfl rfl (q_loadS rfl Cs.A (by rfl) (by rfl)) ?_ | refine wl_val rfl rfl (q_lss1 rfl rfl (by omega)) ?_ | refine wl_val rfl rfl (q_lss0 rfl rfl (by omega)) ?_ | refine wl_lss rfl rfl rfl rfl (fun tt => ?_) (fun tt => ?_) | refine wl_val rfl rfl (q_neq1 rfl rfl (by omega)) ?_ | refine wl_val rfl rfl (q_neq0 rfl rfl (by omega)) ?_ | refine wl_neq rfl rfl rfl rfl (fun tt => ?_) (fun tt => ?_) | refine wl_val rfl rfl (q_neqB rfl rfl) ?_ | refine wl_val rfl rfl (q_addw rfl rfl) ?_) | refine wi_begin (id := 6) (.q 0 (.q 1 (.q 2 (.q 3 (.q 4 (.q 5 (.q 6 (.q 7 (.q 8 .e))))))))) mixed (fun w1 g1 z1 => ?_) | (show WI _ _ _ _ _ _ _ _ _ _; first | refine wq rfl (by kernel_rfl) rfl rfl (fun _ _ => (by first | exact q_pv rfl | exact q_indexAddr _ rfl rfl rfl (by omega) (by first | assumption | rfl) | exact q_indexAddrI rfl rfl (by omega) (by omega) (by first | assumption | rfl) | exact q_loadA rfl Cs.A (by rfl) | exact q_load1 rfl Cs.A (by rfl) | exact q_loadS rfl Cs.A (by rfl) (by rfl) | exact q_neq1 rfl rfl (by omega) | exact q_neq0 rfl rfl (by omega) | exact q_neqB rfl rfl | exact q_neqT rfl rfl | exact q_cmp rfl rfl rfl)) Gr.A ?_ | refine wo (by kernel_rfl) ?_))
    exact ⟨rfl, Gr.A⟩

end Go.Proofs.Ytdenlafdbfbkoaa
