/- How lists of numbers, bytes, texts and items lie in memory. -/
import Derived.Test.YtdenlafdbfbkoaaLib
import Derived.Test.YtdenlafdbfbkoaaTy
namespace Go.Proofs.Ytdenlafdbfbkoaa
open Go.RowKit
set_option linter.unusedVariables false
set_option linter.unusedSimpArgs false

def encU (z : Int) : List Value := [.int .u8 z]
def encI (z : Int) : List Value := [.int .i64 z]

/-- The argument of a generator: bytes that came in. -/
def Code (w : World) (A : Option Addr) (c : Nat) (zs : List Int) : Prop :=
  Sl w A 1 encU zs ∧ (∀ z ∈ zs, 0 ≤ z ∧ z < 256) ∧ zs.length ≤ c ∧ zs.length ≤ 9223372036854775807

theorem Code.gr {w w' : World} {A : Option Addr} {c : Nat} {zs : List Int} (g : Gr w w') (h : Code w A c zs) : Code w' A c zs := ⟨h.1.gr g, h.2⟩

theorem ea_own (b m : Nat) : ea (some ⟨b, 0, none⟩) m = ⟨b, m, none⟩ := by unfold ea; simp [Addr.add]; try omega

/-- A list of items that came in. -/
def Para (w : World) (A : Option Addr) (c : Nat) (xs : List Item) : Prop :=
  Sl w A 6 encT xs ∧ xs.length ≤ c ∧ xs.length ≤ 9223372036854775807

def encS (s : List UInt8) : List Value := [str s]

instance : KT6 Try.prog 38 where
  ng := by kernel_rfl
  eq := fun a b c d e a' b' c' d' e' f f' w => by
    have u3 := Try.underlying3
    have a3 := Try.isAgg3
    have z3 := Try.sizeOf3
    have u4 := Try.underlying4
    have a4 := Try.isAgg4
    have z4 := Try.sizeOf4
    have u5 := Try.underlying25
    have a5 := Try.isAgg25
    have z5 := Try.sizeOf25
    have hS : Try.prog.underlying 38 = some (.struct (Try.prog.fieldsOf 38)) := by kernel_rfl
    have hG : Try.prog.underlying 25 = some (.struct (Try.prog.fieldsOf 25)) := by kernel_rfl
    have hG2 : Try.prog.stoodInHeld 25 = false := by kernel_rfl
    rw [show (10000 : Nat) = 9999 + 1 from rfl, run_equalIn_agg w 9999 38 _ _ hS (by kernel_rfl)]
    simp only [Program.fieldsOf, Try.underlying38]
    go_simp
    (repeat' split) <;> simp_all

end Go.Proofs.Ytdenlafdbfbkoaa
