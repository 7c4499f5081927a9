/- How lists of numbers, bytes, texts and items lie in memory. -/
import Derived.Test.YtncgflkkmccadaaLib
import Derived.Test.YtncgflkkmccadaaTy
namespace Go.Proofs.Ytncgflkkmccadaa
open Go.RowKit
set_option linter.unusedVariables false
set_option linter.unusedSimpArgs false

def encU (z : Int) : List Value := [.int .u8 z]
def encI (z : Int) : List Value := [.int .i64 z]

/-- The argument of a generator: bytes that came in. -/
def Code (w : World) (A : Option Addr) (c : Nat) (zs : List Int) : Prop :=
  Sl w A 1 encU zs ∧ (∀ z ∈ zs, 0 ≤ z ∧ z < 256) ∧ zs.length ≤ c ∧ zs.length ≤ 9223372036854775807

theorem Code.gr {w w' : World} {A : Option Addr} {c : Nat} {zs : List Int} (g : Gr w w') (h : Code w A c zs) : Code w' A c zs := ⟨h.1.gr g, h.2⟩

theorem ea_own (b m : Nat) : ea (some ⟨b, 0, none⟩) m = ⟨b, m, none⟩ := by unfold ea; simp [Addr.add]; try omega

/-- A list of items that came in. -/
def Para (w : World) (A : Option Addr) (c : Nat) (xs : List Item) : Prop :=
  Sl w A 6 encT xs ∧ xs.length ≤ c ∧ xs.length ≤ 9223372036854775807

def encS (s : List UInt8) : List Value := [str s]

end Go.Proofs.Ytncgflkkmccadaa
