/- How lists of numbers, bytes, texts and items lie in memory. -/
import Derived.Test.YtkmfjdnkkkejpaaLib
import Derived.Test.YtkmfjdnkkkejpaaTy
namespace Go.Proofs.Ytkmfjdnkkkejpaa
open Go.RowKit
set_option linter.unusedVariables false
set_option linter.unusedSimpArgs false

def encU (z : Int) : List Value := [.int .u8 z]
def encI (z : Int) : List Value := [.int .i64 z]

/-- The argument of a generator: bytes that came in. -/
def Code (w : World) (A : Option Addr) (c : Nat) (zs : List Int) : Prop :=
  Sl w A 1 encU zs ∧ (∀ z ∈ zs, 0 ≤ z ∧ z < 256) ∧ zs.length ≤ c ∧ zs.length ≤ 9223372036854775807

theorem Code.gr {w w' : World} {A : Option Addr} {c : Nat} {zs : List Int} (g : Gr w w') (h : Code w A c zs) : Code w' A c zs := ⟨h.1.gr g, h.2⟩

/-- An item of a paragraph. -/
structure Item where
  kd : Int
  sz : Glue
  pen : Int
  fl : Bool
  deriving DecidableEq

def encT (x : Item) : List Value := [.int .i64 x.kd, .int .i64 x.sz.wd, .int .i64 x.sz.st, .int .i64 x.sz.sh, .int .i64 x.pen, .bool x.fl]
def vT (x : Item) : Value := .agg (encT x).toArray

def encS (s : List UInt8) : List Value := [str s]

end Go.Proofs.Ytkmfjdnkkkejpaa
