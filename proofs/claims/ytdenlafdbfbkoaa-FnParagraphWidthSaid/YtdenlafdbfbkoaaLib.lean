/- Plain words and laws of the typesetting proofs: no program in sight. -/
import Derived.WalkKit
import Derived.IntWalk
import Derived.WalkSpells
import Derived.Lib.Hide
import Derived.Deep.QuietTactic
import Derived.BigQuiet
namespace Go.Proofs.Ytdenlafdbfbkoaa
open Go.RowKit
set_option linter.unusedVariables false
set_option linter.unusedSimpArgs false

/-- Number in a range. -/
def inR (a b c : Int) : Bool := decide (b ≤ a) && decide (a ≤ c)

theorem inR_iff {a b c : Int} : inR a b c = true ↔ b ≤ a ∧ a ≤ c := by simp [inR]

/-- What a world keeps that has grown only: its old cells, its old marks, its size. -/
theorem bcell {W w1 : World} (hb : Below W.heap.size W w1) : (∀ b o, b < W.heap.size → w1.cell? ⟨b, o, none⟩ = W.cell? ⟨b, o, none⟩) ∧ (∀ b o, b < W.heap.size → w1.frozen? ⟨b, o, none⟩ = W.frozen? ⟨b, o, none⟩) ∧ W.heap.size ≤ w1.heap.size :=
  ⟨fun b o h => hb.cell (p := ⟨b, o, none⟩) h, fun b o h => hb.frozen (p := ⟨b, o, none⟩) h, hb.size⟩

theorem G.alloc {a w : World} (h : Below a.heap.size a w) (o : Obj) : Below a.heap.size a (w.alloc o) := Below.alloc h h.size o
theorem G.trans {a b c : World} (h : Below a.heap.size a b) (k : Below b.heap.size b c) : Below a.heap.size a c := h.trans (k.mono h.size)
theorem G.setCell {a w : World} (h : Below a.heap.size a w) {p : Addr} (hp : a.heap.size ≤ p.block) (u : Value) : Below a.heap.size a (w.setCell p u) := Below.setCell h hp u
theorem G.drew {a w : World} (h : Below a.heap.size a w) : Below a.heap.size a w.drew := Below.drew h
theorem G.drewN {a w : World} (h : Below a.heap.size a w) (n : Nat) : Below a.heap.size a (w.drewN n) := ⟨h.os, h.tape, h.output, h.size, h.block⟩

theorem sz1 {a b : Nat} (h : a + 1 ≤ b) : a < b := by omega
theorem sz2 {a b : Nat} (h : a + 1 + 1 ≤ b) : a < b ∧ a + 1 < b := by omega
theorem sz3 {a b : Nat} (h : a + 1 + 1 + 1 ≤ b) : a < b ∧ a + 1 < b ∧ a + 1 + 1 < b := by omega

theorem ret_eq {a b : Value} (h : a = b) : Ending.returned a = .returned b := by rw [h]

theorem ret_int {k : IntKind} {a b : Int} (h : a = b) : Ending.returned (.int k a) = .returned (.int k b) := by rw [h]
theorem ret_bool {a b : Bool} (h : a = b) : Ending.returned (.bool a) = .returned (.bool b) := by rw [h]

/-- Glue: width, stretch, shrink. -/
structure Glue where
  wd : Int
  st : Int
  sh : Int
  deriving DecidableEq

def encG (g : Glue) : List Value := [.int .i64 g.wd, .int .i64 g.st, .int .i64 g.sh]
def vG (g : Glue) : Value := .agg (encG g).toArray
def Glue.zero : Glue := ⟨0, 0, 0⟩

def vGlue (g : Glue) : Bool := inR g.wd (-10000) 10000 && inR g.st 0 10000 && inR g.sh 0 10000

theorem vGlue_iff {g : Glue} : vGlue g = true ↔ (-10000 ≤ g.wd ∧ g.wd ≤ 10000) ∧ (0 ≤ g.st ∧ g.st ≤ 10000) ∧ (0 ≤ g.sh ∧ g.sh ≤ 10000) := by
  simp [vGlue, inR, and_assoc]

/-- The sum of two glues, as the machine makes it. -/
def addG (a b : Glue) : Glue := ⟨wrap64 (a.wd + b.wd), wrap64 (a.st + b.st), wrap64 (a.sh + b.sh)⟩

def addGlueR (a b : Glue) : Glue × Bool :=
  if vGlue a && vGlue b && vGlue (addG a b) then (addG a b, true) else (Glue.zero, false)

/-- Badness of a need and what is there for it. -/
def badI (need have_ : Int) : Int :=
  if need = 0 then 0 else if have_ = 0 then 10000 else min 10000 (100 * need * need * need / (have_ * have_ * have_))

def badR (need have_ : Int) : Int :=
  if inR need 0 10000 && inR have_ 0 10000 then badI need have_ else -1

def demI (bad pen : Int) (fl : Bool) : Int :=
  (if 0 ≤ pen then (1 + bad + pen) * (1 + bad + pen) else if -1000 < pen then (1 + bad) * (1 + bad) - pen * pen else (1 + bad) * (1 + bad)) + (if fl then 3000 else 0)

def demR (bad pen : Int) (fl : Bool) : Int :=
  if inR bad 0 10000 && inR pen (-1000) 999 then demI bad pen fl else -1

def fitI (g : Glue) (width : Int) : Int × Int :=
  if width - g.wd = 0 then (1, 0)
  else if 0 < width - g.wd then (2, badI (width - g.wd) g.st)
  else if g.wd - width ≤ g.sh then (3, badI (g.wd - width) g.sh)
  else (4, 10000)

def fitR (g : Glue) (width : Int) : Int × Int :=
  if vGlue g && inR width 0 10000 then fitI g width else (0, -1)

/-- An item of a paragraph. -/
structure Item where
  kd : Int
  sz : Glue
  pen : Int
  fl : Bool
  deriving DecidableEq

def encT (x : Item) : List Value := [.int .i64 x.kd, .int .i64 x.sz.wd, .int .i64 x.sz.st, .int .i64 x.sz.sh, .int .i64 x.pen, .bool x.fl]
def vT (x : Item) : Value := .agg (encT x).toArray

theorem cube_bd (h : Int) (h0 : 1 ≤ h) (h1 : h ≤ 10000) : 1 ≤ h * h ∧ h * h ≤ 100000000 ∧ 1 ≤ h * h * h ∧ h * h * h ≤ 1000000000000 := by
  have a : 1 * 1 ≤ h * h := Int.mul_le_mul h0 h0 (by omega) (by omega)
  have b : h * h ≤ 10000 * 10000 := Int.mul_le_mul h1 h1 (by omega) (by omega)
  have c : 1 * 1 ≤ h * h * h := Int.mul_le_mul (by omega) h0 (by omega) (by omega)
  have d : h * h * h ≤ 100000000 * 10000 := Int.mul_le_mul (by omega) h1 (by omega) (by omega)
  omega

theorem cube100_bd (n : Int) (h0 : 0 ≤ n) (h1 : n ≤ 20000) : 0 ≤ 100 * n * n ∧ 100 * n * n ≤ 40000000000 ∧ 0 ≤ 100 * n * n * n ∧ 100 * n * n * n ≤ 800000000000000 := by
  have a : 0 ≤ 100 * n * n := Int.mul_nonneg (by omega) h0
  have b : 100 * n * n ≤ 2000000 * 20000 := Int.mul_le_mul (by omega) h1 h0 (by omega)
  have c : 0 ≤ 100 * n * n * n := Int.mul_nonneg a h0
  have d : 100 * n * n * n ≤ 40000000000 * 20000 := Int.mul_le_mul (by omega) h1 h0 (by omega)
  omega

theorem badI_far (n h : Int) (h1 : 1 ≤ h) (h3 : h ≤ 10000) (hn : 5 * h < n) (h4 : n ≤ 20000) : min 10000 (100 * n * n * n / (h * h * h)) = 10000 := by
  obtain ⟨b1, b2, b3, b4⟩ := cube_bd h h1 h3
  have e1 : (5 * h) * (5 * h) ≤ n * n := Int.mul_le_mul (by omega) (by omega) (by omega) (by omega)
  have e2 : (5 * h) * (5 * h) * (5 * h) ≤ n * n * n := Int.mul_le_mul e1 (by omega) (by omega) (by have := Int.mul_nonneg (show 0 ≤ n by omega) (show 0 ≤ n by omega); omega)
  have e3 : (5 * h) * (5 * h) * (5 * h) = 125 * (h * h * h) := by
    have : (5 * h) * (5 * h) * (5 * h) = (5 * (5 * 5)) * (h * (h * h)) := by simp only [Int.mul_comm, Int.mul_left_comm, Int.mul_assoc]
    rw [this, Int.mul_assoc h h h]; rfl
  have e4 : 100 * n * n * n = 100 * (n * n * n) := by simp only [Int.mul_assoc]
  have : 10000 ≤ 100 * n * n * n / (h * h * h) := Int.le_ediv_of_mul_le (by omega) (by rw [e4]; omega)
  omega

theorem sq_bd (x : Int) (h0 : -20000 ≤ x) (h1 : x ≤ 20000) : 0 ≤ x * x ∧ x * x ≤ 400000000 := by
  rcases Int.le_total 0 x with h | h
  · have a := Int.mul_nonneg h h
    have b : x * x ≤ 20000 * 20000 := Int.mul_le_mul h1 h1 h (by omega)
    omega
  · have e : x * x = (-x) * (-x) := (Int.neg_mul_neg x x).symm
    have a := Int.mul_nonneg (show 0 ≤ -x by omega) (show 0 ≤ -x by omega)
    have b : (-x) * (-x) ≤ 20000 * 20000 := Int.mul_le_mul (by omega) (by omega) (by omega) (by omega)
    rw [e]; omega

end Go.Proofs.Ytdenlafdbfbkoaa
