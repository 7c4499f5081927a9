/-
  No cell of these rows narrows 'for every input' (looked for: loops, veiled, ifaces, maps, wideKeys, modest, calm, conditions, laid).
  DERIVED. THE GIVEN ROWS OF THIS SEAT. 8 by the template 'for every input the law returns true; each argument reads behind the call as it read before'; 0 by the template 'total and deterministic' (their statements: YtkmfjdnkkkejpaaTotals.lean).
  GIVEN WITH THE SEED: the statements are not yours to turn. If you find one false, say at which input.
  Laid BY PROGRAM, IN A SANDBOX (cutbox-rows.mjs): the forced cells as the released guide's own fill.sh prints them over the translation 2c06b8325fe3dc2c… (all of the seat's roots in one cut). By AI agents, Wed Nov 11 2026. No macro, syntax, notation, axiom, sorry.
-/
import Derived.Test.YtkmfjdnkkkejpaaChecked
import GoSem.Claim
import GoSem.ClaimJoined
import GoSem.ClaimMapViews
import Derived.JoinedTies
import Derived.KernelRfl
namespace Go.Proofs.Ytkmfjdnkkkejpaa
/- THE CELL 'sum', in the pinned program and in every row, IS THE sha256 OF THE DUMP (.gsa) THAT YtkmfjdnkkkejpaaProg.lean LOADS. Nothing in Lean hashes anything: it is a label: what it is worth is what the hold of that sum in a sandbox is worth. -/
noncomputable def Try.pinned : Pinned := { name := "ytkmfjdnkkkejpaa", sum := "2c06b8325fe3dc2c7d8fbeb8bfe125bae3e56961471cb216dbf599331d25f60f", checked := Try.checked }
namespace Rows
def none {H : Type} : Left H := { results := [], args := [] }

/-- 'laws.FnBadness': WHATEVER THE INPUT: true; the input reads as it did. -/
def fnBadnessSpec : ChangeSpec := { name := "fnBadness", fn := fun _ => fun
  | [d] => { results := [.lit (.bool true)], args := [d] }
  | _ => none }
def fnBadnessRow : OpenClaim := { program := "ytkmfjdnkkkejpaa", sum := "2c06b8325fe3dc2c7d8fbeb8bfe125bae3e56961471cb216dbf599331d25f60f", func := "loop.example/typesetting/laws.FnBadness", spec := "fnBadness", apart := false }
def FnBadnessSaid : Prop := fnBadnessRow.holds Try.pinned (OpenSpec.ofChange fnBadnessSpec)

/-- ITS FALSE NEIGHBOUR: 'it returns false'. Refute it at one input. -/
def fnBadnessWrong : ChangeSpec := { name := "fnBadness", fn := fun _ => fun
  | [d] => { results := [.lit (.bool false)], args := [d] }
  | _ => none }
def FnBadnessWrongFalsely : Prop := fnBadnessRow.holds Try.pinned (OpenSpec.ofChange fnBadnessWrong)

/-- 'laws.FnBadnessScale': WHATEVER THE INPUT: true; the input reads as it did. -/
def fnBadnessScaleSpec : ChangeSpec := { name := "fnBadnessScale", fn := fun _ => fun
  | [d] => { results := [.lit (.bool true)], args := [d] }
  | _ => none }
def fnBadnessScaleRow : OpenClaim := { program := "ytkmfjdnkkkejpaa", sum := "2c06b8325fe3dc2c7d8fbeb8bfe125bae3e56961471cb216dbf599331d25f60f", func := "loop.example/typesetting/laws.FnBadnessScale", spec := "fnBadnessScale", apart := false }
def FnBadnessScaleSaid : Prop := fnBadnessScaleRow.holds Try.pinned (OpenSpec.ofChange fnBadnessScaleSpec)

/-- ITS FALSE NEIGHBOUR: 'it returns false'. Refute it at one input. -/
def fnBadnessScaleWrong : ChangeSpec := { name := "fnBadnessScale", fn := fun _ => fun
  | [d] => { results := [.lit (.bool false)], args := [d] }
  | _ => none }
def FnBadnessScaleWrongFalsely : Prop := fnBadnessScaleRow.holds Try.pinned (OpenSpec.ofChange fnBadnessScaleWrong)

/-- 'laws.FnExactFitGlue': WHATEVER THE INPUT: true; the input reads as it did. -/
def fnExactFitGlueSpec : ChangeSpec := { name := "fnExactFitGlue", fn := fun _ => fun
  | [d1, d2] => { results := [.lit (.bool true)], args := [d1, d2] }
  | _ => none }
def fnExactFitGlueRow : OpenClaim := { program := "ytkmfjdnkkkejpaa", sum := "2c06b8325fe3dc2c7d8fbeb8bfe125bae3e56961471cb216dbf599331d25f60f", func := "loop.example/typesetting/laws.FnExactFitGlue", spec := "fnExactFitGlue", apart := false }
def FnExactFitGlueSaid : Prop := fnExactFitGlueRow.holds Try.pinned (OpenSpec.ofChange fnExactFitGlueSpec)

/-- ITS FALSE NEIGHBOUR: 'it returns false'. Refute it at one input. -/
def fnExactFitGlueWrong : ChangeSpec := { name := "fnExactFitGlue", fn := fun _ => fun
  | [d1, d2] => { results := [.lit (.bool false)], args := [d1, d2] }
  | _ => none }
def FnExactFitGlueWrongFalsely : Prop := fnExactFitGlueRow.holds Try.pinned (OpenSpec.ofChange fnExactFitGlueWrong)

/-- 'laws.FnAddGlue': WHATEVER THE INPUT: true; the input reads as it did. -/
def fnAddGlueSpec : ChangeSpec := { name := "fnAddGlue", fn := fun _ => fun
  | [d] => { results := [.lit (.bool true)], args := [d] }
  | _ => none }
def fnAddGlueRow : OpenClaim := { program := "ytkmfjdnkkkejpaa", sum := "2c06b8325fe3dc2c7d8fbeb8bfe125bae3e56961471cb216dbf599331d25f60f", func := "loop.example/typesetting/laws.FnAddGlue", spec := "fnAddGlue", apart := false }
def FnAddGlueSaid : Prop := fnAddGlueRow.holds Try.pinned (OpenSpec.ofChange fnAddGlueSpec)

/-- ITS FALSE NEIGHBOUR: 'it returns false'. Refute it at one input. -/
def fnAddGlueWrong : ChangeSpec := { name := "fnAddGlue", fn := fun _ => fun
  | [d] => { results := [.lit (.bool false)], args := [d] }
  | _ => none }
def FnAddGlueWrongFalsely : Prop := fnAddGlueRow.holds Try.pinned (OpenSpec.ofChange fnAddGlueWrong)

/-- 'laws.FnGlueAssociative': WHATEVER THE INPUT: true; the input reads as it did. -/
def fnGlueAssociativeSpec : ChangeSpec := { name := "fnGlueAssociative", fn := fun _ => fun
  | [d1, d2] => { results := [.lit (.bool true)], args := [d1, d2] }
  | _ => none }
def fnGlueAssociativeRow : OpenClaim := { program := "ytkmfjdnkkkejpaa", sum := "2c06b8325fe3dc2c7d8fbeb8bfe125bae3e56961471cb216dbf599331d25f60f", func := "loop.example/typesetting/laws.FnGlueAssociative", spec := "fnGlueAssociative", apart := false }
def FnGlueAssociativeSaid : Prop := fnGlueAssociativeRow.holds Try.pinned (OpenSpec.ofChange fnGlueAssociativeSpec)

/-- ITS FALSE NEIGHBOUR: 'it returns false'. Refute it at one input. -/
def fnGlueAssociativeWrong : ChangeSpec := { name := "fnGlueAssociative", fn := fun _ => fun
  | [d1, d2] => { results := [.lit (.bool false)], args := [d1, d2] }
  | _ => none }
def FnGlueAssociativeWrongFalsely : Prop := fnGlueAssociativeRow.holds Try.pinned (OpenSpec.ofChange fnGlueAssociativeWrong)

/-- 'laws.FnDemerits': WHATEVER THE INPUT: true; the input reads as it did. -/
def fnDemeritsSpec : ChangeSpec := { name := "fnDemerits", fn := fun _ => fun
  | [d] => { results := [.lit (.bool true)], args := [d] }
  | _ => none }
def fnDemeritsRow : OpenClaim := { program := "ytkmfjdnkkkejpaa", sum := "2c06b8325fe3dc2c7d8fbeb8bfe125bae3e56961471cb216dbf599331d25f60f", func := "loop.example/typesetting/laws.FnDemerits", spec := "fnDemerits", apart := false }
def FnDemeritsSaid : Prop := fnDemeritsRow.holds Try.pinned (OpenSpec.ofChange fnDemeritsSpec)

/-- ITS FALSE NEIGHBOUR: 'it returns false'. Refute it at one input. -/
def fnDemeritsWrong : ChangeSpec := { name := "fnDemerits", fn := fun _ => fun
  | [d] => { results := [.lit (.bool false)], args := [d] }
  | _ => none }
def FnDemeritsWrongFalsely : Prop := fnDemeritsRow.holds Try.pinned (OpenSpec.ofChange fnDemeritsWrong)

/-- 'laws.FnDemeritsPlain': WHATEVER THE INPUT: true; the input reads as it did. -/
def fnDemeritsPlainSpec : ChangeSpec := { name := "fnDemeritsPlain", fn := fun _ => fun
  | [d] => { results := [.lit (.bool true)], args := [d] }
  | _ => none }
def fnDemeritsPlainRow : OpenClaim := { program := "ytkmfjdnkkkejpaa", sum := "2c06b8325fe3dc2c7d8fbeb8bfe125bae3e56961471cb216dbf599331d25f60f", func := "loop.example/typesetting/laws.FnDemeritsPlain", spec := "fnDemeritsPlain", apart := false }
def FnDemeritsPlainSaid : Prop := fnDemeritsPlainRow.holds Try.pinned (OpenSpec.ofChange fnDemeritsPlainSpec)

/-- ITS FALSE NEIGHBOUR: 'it returns false'. Refute it at one input. -/
def fnDemeritsPlainWrong : ChangeSpec := { name := "fnDemeritsPlain", fn := fun _ => fun
  | [d] => { results := [.lit (.bool false)], args := [d] }
  | _ => none }
def FnDemeritsPlainWrongFalsely : Prop := fnDemeritsPlainRow.holds Try.pinned (OpenSpec.ofChange fnDemeritsPlainWrong)

/-- 'laws.FnFitGlue': WHATEVER THE INPUT: true; the input reads as it did. -/
def fnFitGlueSpec : ChangeSpec := { name := "fnFitGlue", fn := fun _ => fun
  | [d] => { results := [.lit (.bool true)], args := [d] }
  | _ => none }
def fnFitGlueRow : OpenClaim := { program := "ytkmfjdnkkkejpaa", sum := "2c06b8325fe3dc2c7d8fbeb8bfe125bae3e56961471cb216dbf599331d25f60f", func := "loop.example/typesetting/laws.FnFitGlue", spec := "fnFitGlue", apart := false }
def FnFitGlueSaid : Prop := fnFitGlueRow.holds Try.pinned (OpenSpec.ofChange fnFitGlueSpec)

/-- ITS FALSE NEIGHBOUR: 'it returns false'. Refute it at one input. -/
def fnFitGlueWrong : ChangeSpec := { name := "fnFitGlue", fn := fun _ => fun
  | [d] => { results := [.lit (.bool false)], args := [d] }
  | _ => none }
def FnFitGlueWrongFalsely : Prop := fnFitGlueRow.holds Try.pinned (OpenSpec.ofChange fnFitGlueWrong)

/- THE SECOND FORM. 'bulk': how many values and letters a reading holds, each counted each time it is reached (what is shared counts as often as it is met; a slice's spare places count too). A statement '..UptoSaid' is the law's where the arguments, and the package variables that the reading takes, are together of bulk at most 1048576: NARROWER than '..Said'. Prove '..Said' where nothing that the law and all that it calls make is longer than what came in: it says more and counts as full. Else prove '..UptoSaid'. A law counts once. -/
mutual
def uptoBulk {H : Type} : DataW H → Nat
  | .lit (.string bytes) => bytes.length + 1
  | .lit _ => 1
  | .nil => 1
  | .ptr d => uptoBulk d + 1
  | .slice elems spare => uptoBulkAll elems + uptoBulkAll spare + 1
  | .agg parts => uptoBulkAll parts + 1
  | .iface _ d => uptoBulk d + 1
  | .map entries => uptoBulkEntries entries + 1
  | .held _ => 1
def uptoBulkAll {H : Type} : List (DataW H) → Nat
  | [] => 0
  | d :: r => uptoBulk d + uptoBulkAll r
def uptoBulkEntries {H : Type} : List (Lit × DataW H) → Nat
  | [] => 0
  | x :: r => uptoBulkEntry x + uptoBulkEntries r
def uptoBulkEntry {H : Type} : Lit × DataW H → Nat
  | (.string bytes, d) => bytes.length + uptoBulk d + 1
  | (_, d) => uptoBulk d + 1
 end
def uptoSmall : (H : Type) → List (DataW H) → Bool := fun _ ds => decide (uptoBulkAll ds ≤ 1048576)
def OpenSpec.upto (s : _root_.Go.ChangeSpec) : _root_.Go.OpenSpec := { _root_.Go.OpenSpec.ofChange s with cond := some uptoSmall }

/-- 'laws.FnBadness', WHERE WHAT IT READS IS OF BULK AT MOST 1048576: true; the input reads as it did. -/
def fnBadnessUptoRow : OpenClaim := { program := "ytkmfjdnkkkejpaa", sum := "2c06b8325fe3dc2c7d8fbeb8bfe125bae3e56961471cb216dbf599331d25f60f", func := "loop.example/typesetting/laws.FnBadness", spec := "fnBadness", apart := false, narrowed := true }
def FnBadnessUptoSaid : Prop := fnBadnessUptoRow.holds Try.pinned (OpenSpec.upto fnBadnessSpec)

/-- 'laws.FnBadnessScale', WHERE WHAT IT READS IS OF BULK AT MOST 1048576: true; the input reads as it did. -/
def fnBadnessScaleUptoRow : OpenClaim := { program := "ytkmfjdnkkkejpaa", sum := "2c06b8325fe3dc2c7d8fbeb8bfe125bae3e56961471cb216dbf599331d25f60f", func := "loop.example/typesetting/laws.FnBadnessScale", spec := "fnBadnessScale", apart := false, narrowed := true }
def FnBadnessScaleUptoSaid : Prop := fnBadnessScaleUptoRow.holds Try.pinned (OpenSpec.upto fnBadnessScaleSpec)

/-- 'laws.FnExactFitGlue', WHERE WHAT IT READS IS OF BULK AT MOST 1048576: true; the input reads as it did. -/
def fnExactFitGlueUptoRow : OpenClaim := { program := "ytkmfjdnkkkejpaa", sum := "2c06b8325fe3dc2c7d8fbeb8bfe125bae3e56961471cb216dbf599331d25f60f", func := "loop.example/typesetting/laws.FnExactFitGlue", spec := "fnExactFitGlue", apart := false, narrowed := true }
def FnExactFitGlueUptoSaid : Prop := fnExactFitGlueUptoRow.holds Try.pinned (OpenSpec.upto fnExactFitGlueSpec)

/-- 'laws.FnAddGlue', WHERE WHAT IT READS IS OF BULK AT MOST 1048576: true; the input reads as it did. -/
def fnAddGlueUptoRow : OpenClaim := { program := "ytkmfjdnkkkejpaa", sum := "2c06b8325fe3dc2c7d8fbeb8bfe125bae3e56961471cb216dbf599331d25f60f", func := "loop.example/typesetting/laws.FnAddGlue", spec := "fnAddGlue", apart := false, narrowed := true }
def FnAddGlueUptoSaid : Prop := fnAddGlueUptoRow.holds Try.pinned (OpenSpec.upto fnAddGlueSpec)

/-- 'laws.FnGlueAssociative', WHERE WHAT IT READS IS OF BULK AT MOST 1048576: true; the input reads as it did. -/
def fnGlueAssociativeUptoRow : OpenClaim := { program := "ytkmfjdnkkkejpaa", sum := "2c06b8325fe3dc2c7d8fbeb8bfe125bae3e56961471cb216dbf599331d25f60f", func := "loop.example/typesetting/laws.FnGlueAssociative", spec := "fnGlueAssociative", apart := false, narrowed := true }
def FnGlueAssociativeUptoSaid : Prop := fnGlueAssociativeUptoRow.holds Try.pinned (OpenSpec.upto fnGlueAssociativeSpec)

/-- 'laws.FnDemerits', WHERE WHAT IT READS IS OF BULK AT MOST 1048576: true; the input reads as it did. -/
def fnDemeritsUptoRow : OpenClaim := { program := "ytkmfjdnkkkejpaa", sum := "2c06b8325fe3dc2c7d8fbeb8bfe125bae3e56961471cb216dbf599331d25f60f", func := "loop.example/typesetting/laws.FnDemerits", spec := "fnDemerits", apart := false, narrowed := true }
def FnDemeritsUptoSaid : Prop := fnDemeritsUptoRow.holds Try.pinned (OpenSpec.upto fnDemeritsSpec)

/-- 'laws.FnDemeritsPlain', WHERE WHAT IT READS IS OF BULK AT MOST 1048576: true; the input reads as it did. -/
def fnDemeritsPlainUptoRow : OpenClaim := { program := "ytkmfjdnkkkejpaa", sum := "2c06b8325fe3dc2c7d8fbeb8bfe125bae3e56961471cb216dbf599331d25f60f", func := "loop.example/typesetting/laws.FnDemeritsPlain", spec := "fnDemeritsPlain", apart := false, narrowed := true }
def FnDemeritsPlainUptoSaid : Prop := fnDemeritsPlainUptoRow.holds Try.pinned (OpenSpec.upto fnDemeritsPlainSpec)

/-- 'laws.FnFitGlue', WHERE WHAT IT READS IS OF BULK AT MOST 1048576: true; the input reads as it did. -/
def fnFitGlueUptoRow : OpenClaim := { program := "ytkmfjdnkkkejpaa", sum := "2c06b8325fe3dc2c7d8fbeb8bfe125bae3e56961471cb216dbf599331d25f60f", func := "loop.example/typesetting/laws.FnFitGlue", spec := "fnFitGlue", apart := false, narrowed := true }
def FnFitGlueUptoSaid : Prop := fnFitGlueUptoRow.holds Try.pinned (OpenSpec.upto fnFitGlueSpec)

end Rows
end Go.Proofs.Ytkmfjdnkkkejpaa
