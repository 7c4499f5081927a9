/-
  No cell of these rows narrows 'for every input' (looked for: loops, veiled, ifaces, maps, wideKeys, modest, calm, conditions, laid).
  DERIVED. THE GIVEN ROWS OF THIS SEAT. 10 by the template 'for every input the law returns true; each argument reads behind the call as it read before'; 0 by the template 'total and deterministic' (their statements: YtncgflkkmccadaaTotals.lean).
  GIVEN WITH THE SEED: the statements are not yours to turn. If you find one false, say at which input.
  Laid BY PROGRAM, IN A SANDBOX (cutbox-rows.mjs): the forced cells as the released guide's own fill.sh prints them over the translation a73705e882240735… (all of the seat's roots in one cut). By AI agents, Wed Nov 11 2026. No macro, syntax, notation, axiom, sorry.
-/
import Derived.Test.YtncgflkkmccadaaChecked
import GoSem.Claim
import GoSem.ClaimJoined
import GoSem.ClaimMapViews
import Derived.JoinedTies
import Derived.KernelRfl
namespace Go.Proofs.Ytncgflkkmccadaa
/- THE CELL 'sum', in the pinned program and in every row, IS THE sha256 OF THE DUMP (.gsa) THAT YtncgflkkmccadaaProg.lean LOADS. Nothing in Lean hashes anything: it is a label: what it is worth is what the hold of that sum in a sandbox is worth. -/
noncomputable def Try.pinned : Pinned := { name := "ytncgflkkmccadaa", sum := "a73705e882240735f0e52754a686c90256ac4f66d394702a7d448ad9c30dbc6e", checked := Try.checked }
namespace Rows
def none {H : Type} : Left H := { results := [], args := [] }

/-- 'laws.FnExactParsePattern': WHATEVER THE INPUT: true; the input reads as it did. -/
def fnExactParsePatternSpec : ChangeSpec := { name := "fnExactParsePattern", fn := fun _ => fun
  | [d] => { results := [.lit (.bool true)], args := [d] }
  | _ => none }
def fnExactParsePatternRow : OpenClaim := { program := "ytncgflkkmccadaa", sum := "a73705e882240735f0e52754a686c90256ac4f66d394702a7d448ad9c30dbc6e", func := "loop.example/typesetting/laws.FnExactParsePattern", spec := "fnExactParsePattern", inPlace := ["internal/abi.NoEscape"], apart := false }
def FnExactParsePatternSaid : Prop := fnExactParsePatternRow.holds Try.pinned (OpenSpec.ofChange fnExactParsePatternSpec)

/-- ITS FALSE NEIGHBOUR: 'it returns false'. Refute it at one input. -/
def fnExactParsePatternWrong : ChangeSpec := { name := "fnExactParsePattern", fn := fun _ => fun
  | [d] => { results := [.lit (.bool false)], args := [d] }
  | _ => none }
def FnExactParsePatternWrongFalsely : Prop := fnExactParsePatternRow.holds Try.pinned (OpenSpec.ofChange fnExactParsePatternWrong)

/-- 'laws.FnExactSplitWord': WHATEVER THE INPUT: true; the input reads as it did. -/
def fnExactSplitWordSpec : ChangeSpec := { name := "fnExactSplitWord", fn := fun _ => fun
  | [d1, d2] => { results := [.lit (.bool true)], args := [d1, d2] }
  | _ => none }
def fnExactSplitWordRow : OpenClaim := { program := "ytncgflkkmccadaa", sum := "a73705e882240735f0e52754a686c90256ac4f66d394702a7d448ad9c30dbc6e", func := "loop.example/typesetting/laws.FnExactSplitWord", spec := "fnExactSplitWord", apart := false }
def FnExactSplitWordSaid : Prop := fnExactSplitWordRow.holds Try.pinned (OpenSpec.ofChange fnExactSplitWordSpec)

/-- ITS FALSE NEIGHBOUR: 'it returns false'. Refute it at one input. -/
def fnExactSplitWordWrong : ChangeSpec := { name := "fnExactSplitWord", fn := fun _ => fun
  | [d1, d2] => { results := [.lit (.bool false)], args := [d1, d2] }
  | _ => none }
def FnExactSplitWordWrongFalsely : Prop := fnExactSplitWordRow.holds Try.pinned (OpenSpec.ofChange fnExactSplitWordWrong)

/-- 'laws.FnSplitWord': WHATEVER THE INPUT: true; the input reads as it did. -/
def fnSplitWordSpec : ChangeSpec := { name := "fnSplitWord", fn := fun _ => fun
  | [d] => { results := [.lit (.bool true)], args := [d] }
  | _ => none }
def fnSplitWordRow : OpenClaim := { program := "ytncgflkkmccadaa", sum := "a73705e882240735f0e52754a686c90256ac4f66d394702a7d448ad9c30dbc6e", func := "loop.example/typesetting/laws.FnSplitWord", spec := "fnSplitWord", apart := false }
def FnSplitWordSaid : Prop := fnSplitWordRow.holds Try.pinned (OpenSpec.ofChange fnSplitWordSpec)

/-- ITS FALSE NEIGHBOUR: 'it returns false'. Refute it at one input. -/
def fnSplitWordWrong : ChangeSpec := { name := "fnSplitWord", fn := fun _ => fun
  | [d] => { results := [.lit (.bool false)], args := [d] }
  | _ => none }
def FnSplitWordWrongFalsely : Prop := fnSplitWordRow.holds Try.pinned (OpenSpec.ofChange fnSplitWordWrong)

/-- 'laws.FnParsePattern': WHATEVER THE INPUT: true; the input reads as it did. -/
def fnParsePatternSpec : ChangeSpec := { name := "fnParsePattern", fn := fun _ => fun
  | [d] => { results := [.lit (.bool true)], args := [d] }
  | _ => none }
def fnParsePatternRow : OpenClaim := { program := "ytncgflkkmccadaa", sum := "a73705e882240735f0e52754a686c90256ac4f66d394702a7d448ad9c30dbc6e", func := "loop.example/typesetting/laws.FnParsePattern", spec := "fnParsePattern", inPlace := ["internal/abi.NoEscape"], recurses := true, apart := false }
def FnParsePatternSaid : Prop := fnParsePatternRow.holds Try.pinned (OpenSpec.ofChange fnParsePatternSpec)

/-- ITS FALSE NEIGHBOUR: 'it returns false'. Refute it at one input. -/
def fnParsePatternWrong : ChangeSpec := { name := "fnParsePattern", fn := fun _ => fun
  | [d] => { results := [.lit (.bool false)], args := [d] }
  | _ => none }
def FnParsePatternWrongFalsely : Prop := fnParsePatternRow.holds Try.pinned (OpenSpec.ofChange fnParsePatternWrong)

/-- 'laws.FnExactHyphenValues': WHATEVER THE INPUT: true; the input reads as it did. -/
def fnExactHyphenValuesSpec : ChangeSpec := { name := "fnExactHyphenValues", fn := fun _ => fun
  | [d1, d2] => { results := [.lit (.bool true)], args := [d1, d2] }
  | _ => none }
def fnExactHyphenValuesRow : OpenClaim := { program := "ytncgflkkmccadaa", sum := "a73705e882240735f0e52754a686c90256ac4f66d394702a7d448ad9c30dbc6e", func := "loop.example/typesetting/laws.FnExactHyphenValues", spec := "fnExactHyphenValues", inPlace := ["internal/abi.NoEscape"], apart := false }
def FnExactHyphenValuesSaid : Prop := fnExactHyphenValuesRow.holds Try.pinned (OpenSpec.ofChange fnExactHyphenValuesSpec)

/-- ITS FALSE NEIGHBOUR: 'it returns false'. Refute it at one input. -/
def fnExactHyphenValuesWrong : ChangeSpec := { name := "fnExactHyphenValues", fn := fun _ => fun
  | [d1, d2] => { results := [.lit (.bool false)], args := [d1, d2] }
  | _ => none }
def FnExactHyphenValuesWrongFalsely : Prop := fnExactHyphenValuesRow.holds Try.pinned (OpenSpec.ofChange fnExactHyphenValuesWrong)

/-- 'laws.FnExactHyphenPoints': WHATEVER THE INPUT: true; the input reads as it did. -/
def fnExactHyphenPointsSpec : ChangeSpec := { name := "fnExactHyphenPoints", fn := fun _ => fun
  | [d1, d2] => { results := [.lit (.bool true)], args := [d1, d2] }
  | _ => none }
def fnExactHyphenPointsRow : OpenClaim := { program := "ytncgflkkmccadaa", sum := "a73705e882240735f0e52754a686c90256ac4f66d394702a7d448ad9c30dbc6e", func := "loop.example/typesetting/laws.FnExactHyphenPoints", spec := "fnExactHyphenPoints", inPlace := ["internal/abi.NoEscape"], apart := false }
def FnExactHyphenPointsSaid : Prop := fnExactHyphenPointsRow.holds Try.pinned (OpenSpec.ofChange fnExactHyphenPointsSpec)

/-- ITS FALSE NEIGHBOUR: 'it returns false'. Refute it at one input. -/
def fnExactHyphenPointsWrong : ChangeSpec := { name := "fnExactHyphenPoints", fn := fun _ => fun
  | [d1, d2] => { results := [.lit (.bool false)], args := [d1, d2] }
  | _ => none }
def FnExactHyphenPointsWrongFalsely : Prop := fnExactHyphenPointsRow.holds Try.pinned (OpenSpec.ofChange fnExactHyphenPointsWrong)

/-- 'laws.FnHyphenValues': WHATEVER THE INPUT: true; the input reads as it did. -/
def fnHyphenValuesSpec : ChangeSpec := { name := "fnHyphenValues", fn := fun _ => fun
  | [d1, d2] => { results := [.lit (.bool true)], args := [d1, d2] }
  | _ => none }
def fnHyphenValuesRow : OpenClaim := { program := "ytncgflkkmccadaa", sum := "a73705e882240735f0e52754a686c90256ac4f66d394702a7d448ad9c30dbc6e", func := "loop.example/typesetting/laws.FnHyphenValues", spec := "fnHyphenValues", inPlace := ["internal/abi.NoEscape"], recurses := true, apart := false }
def FnHyphenValuesSaid : Prop := fnHyphenValuesRow.holds Try.pinned (OpenSpec.ofChange fnHyphenValuesSpec)

/-- ITS FALSE NEIGHBOUR: 'it returns false'. Refute it at one input. -/
def fnHyphenValuesWrong : ChangeSpec := { name := "fnHyphenValues", fn := fun _ => fun
  | [d1, d2] => { results := [.lit (.bool false)], args := [d1, d2] }
  | _ => none }
def FnHyphenValuesWrongFalsely : Prop := fnHyphenValuesRow.holds Try.pinned (OpenSpec.ofChange fnHyphenValuesWrong)

/-- 'laws.FnHyphenPoints': WHATEVER THE INPUT: true; the input reads as it did. -/
def fnHyphenPointsSpec : ChangeSpec := { name := "fnHyphenPoints", fn := fun _ => fun
  | [d] => { results := [.lit (.bool true)], args := [d] }
  | _ => none }
def fnHyphenPointsRow : OpenClaim := { program := "ytncgflkkmccadaa", sum := "a73705e882240735f0e52754a686c90256ac4f66d394702a7d448ad9c30dbc6e", func := "loop.example/typesetting/laws.FnHyphenPoints", spec := "fnHyphenPoints", inPlace := ["internal/abi.NoEscape"], recurses := true, apart := false }
def FnHyphenPointsSaid : Prop := fnHyphenPointsRow.holds Try.pinned (OpenSpec.ofChange fnHyphenPointsSpec)

/-- ITS FALSE NEIGHBOUR: 'it returns false'. Refute it at one input. -/
def fnHyphenPointsWrong : ChangeSpec := { name := "fnHyphenPoints", fn := fun _ => fun
  | [d] => { results := [.lit (.bool false)], args := [d] }
  | _ => none }
def FnHyphenPointsWrongFalsely : Prop := fnHyphenPointsRow.holds Try.pinned (OpenSpec.ofChange fnHyphenPointsWrong)

/-- 'laws.FnHyphenNone': WHATEVER THE INPUT: true; the input reads as it did. -/
def fnHyphenNoneSpec : ChangeSpec := { name := "fnHyphenNone", fn := fun _ => fun
  | [d] => { results := [.lit (.bool true)], args := [d] }
  | _ => none }
def fnHyphenNoneRow : OpenClaim := { program := "ytncgflkkmccadaa", sum := "a73705e882240735f0e52754a686c90256ac4f66d394702a7d448ad9c30dbc6e", func := "loop.example/typesetting/laws.FnHyphenNone", spec := "fnHyphenNone", inPlace := ["internal/abi.NoEscape"], recurses := true, apart := false }
def FnHyphenNoneSaid : Prop := fnHyphenNoneRow.holds Try.pinned (OpenSpec.ofChange fnHyphenNoneSpec)

/-- ITS FALSE NEIGHBOUR: 'it returns false'. Refute it at one input. -/
def fnHyphenNoneWrong : ChangeSpec := { name := "fnHyphenNone", fn := fun _ => fun
  | [d] => { results := [.lit (.bool false)], args := [d] }
  | _ => none }
def FnHyphenNoneWrongFalsely : Prop := fnHyphenNoneRow.holds Try.pinned (OpenSpec.ofChange fnHyphenNoneWrong)

/-- 'laws.FnSplitHyphens': WHATEVER THE INPUT: true; the input reads as it did. -/
def fnSplitHyphensSpec : ChangeSpec := { name := "fnSplitHyphens", fn := fun _ => fun
  | [d] => { results := [.lit (.bool true)], args := [d] }
  | _ => none }
def fnSplitHyphensRow : OpenClaim := { program := "ytncgflkkmccadaa", sum := "a73705e882240735f0e52754a686c90256ac4f66d394702a7d448ad9c30dbc6e", func := "loop.example/typesetting/laws.FnSplitHyphens", spec := "fnSplitHyphens", inPlace := ["internal/abi.NoEscape"], recurses := true, apart := false }
def FnSplitHyphensSaid : Prop := fnSplitHyphensRow.holds Try.pinned (OpenSpec.ofChange fnSplitHyphensSpec)

/-- ITS FALSE NEIGHBOUR: 'it returns false'. Refute it at one input. -/
def fnSplitHyphensWrong : ChangeSpec := { name := "fnSplitHyphens", fn := fun _ => fun
  | [d] => { results := [.lit (.bool false)], args := [d] }
  | _ => none }
def FnSplitHyphensWrongFalsely : Prop := fnSplitHyphensRow.holds Try.pinned (OpenSpec.ofChange fnSplitHyphensWrong)

/- THE SECOND FORM. 'bulk': how many values and letters a reading holds, each counted each time it is reached (what is shared counts as often as it is met; a slice's spare places count too). A statement '..UptoSaid' is the law's where the arguments, and the package variables that the reading takes, are together of bulk at most 1048576: NARROWER than '..Said'. Prove '..Said' where nothing that the law and all that it calls make is longer than what came in: it says more and counts as full. Else prove '..UptoSaid'. A law counts once. -/
mutual
def uptoBulk {H : Type} : DataW H → Nat
  | .lit (.string bytes) => bytes.length + 1
  | .lit _ => 1
  | .nil => 1
  | .ptr d => uptoBulk d + 1
  | .slice elems spare => uptoBulkAll elems + uptoBulkAll spare + 1
  | .agg parts => uptoBulkAll parts + 1
  | .iface _ d => uptoBulk d + 1
  | .map entries => uptoBulkEntries entries + 1
  | .held _ => 1
def uptoBulkAll {H : Type} : List (DataW H) → Nat
  | [] => 0
  | d :: r => uptoBulk d + uptoBulkAll r
def uptoBulkEntries {H : Type} : List (Lit × DataW H) → Nat
  | [] => 0
  | x :: r => uptoBulkEntry x + uptoBulkEntries r
def uptoBulkEntry {H : Type} : Lit × DataW H → Nat
  | (.string bytes, d) => bytes.length + uptoBulk d + 1
  | (_, d) => uptoBulk d + 1
 end
def uptoSmall : (H : Type) → List (DataW H) → Bool := fun _ ds => decide (uptoBulkAll ds ≤ 1048576)
def OpenSpec.upto (s : _root_.Go.ChangeSpec) : _root_.Go.OpenSpec := { _root_.Go.OpenSpec.ofChange s with cond := some uptoSmall }

/-- 'laws.FnExactParsePattern', WHERE WHAT IT READS IS OF BULK AT MOST 1048576: true; the input reads as it did. -/
def fnExactParsePatternUptoRow : OpenClaim := { program := "ytncgflkkmccadaa", sum := "a73705e882240735f0e52754a686c90256ac4f66d394702a7d448ad9c30dbc6e", func := "loop.example/typesetting/laws.FnExactParsePattern", spec := "fnExactParsePattern", inPlace := ["internal/abi.NoEscape"], apart := false, narrowed := true }
def FnExactParsePatternUptoSaid : Prop := fnExactParsePatternUptoRow.holds Try.pinned (OpenSpec.upto fnExactParsePatternSpec)

/-- 'laws.FnExactSplitWord', WHERE WHAT IT READS IS OF BULK AT MOST 1048576: true; the input reads as it did. -/
def fnExactSplitWordUptoRow : OpenClaim := { program := "ytncgflkkmccadaa", sum := "a73705e882240735f0e52754a686c90256ac4f66d394702a7d448ad9c30dbc6e", func := "loop.example/typesetting/laws.FnExactSplitWord", spec := "fnExactSplitWord", apart := false, narrowed := true }
def FnExactSplitWordUptoSaid : Prop := fnExactSplitWordUptoRow.holds Try.pinned (OpenSpec.upto fnExactSplitWordSpec)

/-- 'laws.FnSplitWord', WHERE WHAT IT READS IS OF BULK AT MOST 1048576: true; the input reads as it did. -/
def fnSplitWordUptoRow : OpenClaim := { program := "ytncgflkkmccadaa", sum := "a73705e882240735f0e52754a686c90256ac4f66d394702a7d448ad9c30dbc6e", func := "loop.example/typesetting/laws.FnSplitWord", spec := "fnSplitWord", apart := false, narrowed := true }
def FnSplitWordUptoSaid : Prop := fnSplitWordUptoRow.holds Try.pinned (OpenSpec.upto fnSplitWordSpec)

/-- 'laws.FnParsePattern', WHERE WHAT IT READS IS OF BULK AT MOST 1048576: true; the input reads as it did. -/
def fnParsePatternUptoRow : OpenClaim := { program := "ytncgflkkmccadaa", sum := "a73705e882240735f0e52754a686c90256ac4f66d394702a7d448ad9c30dbc6e", func := "loop.example/typesetting/laws.FnParsePattern", spec := "fnParsePattern", inPlace := ["internal/abi.NoEscape"], recurses := true, apart := false, narrowed := true }
def FnParsePatternUptoSaid : Prop := fnParsePatternUptoRow.holds Try.pinned (OpenSpec.upto fnParsePatternSpec)

/-- 'laws.FnExactHyphenValues', WHERE WHAT IT READS IS OF BULK AT MOST 1048576: true; the input reads as it did. -/
def fnExactHyphenValuesUptoRow : OpenClaim := { program := "ytncgflkkmccadaa", sum := "a73705e882240735f0e52754a686c90256ac4f66d394702a7d448ad9c30dbc6e", func := "loop.example/typesetting/laws.FnExactHyphenValues", spec := "fnExactHyphenValues", inPlace := ["internal/abi.NoEscape"], apart := false, narrowed := true }
def FnExactHyphenValuesUptoSaid : Prop := fnExactHyphenValuesUptoRow.holds Try.pinned (OpenSpec.upto fnExactHyphenValuesSpec)

/-- 'laws.FnExactHyphenPoints', WHERE WHAT IT READS IS OF BULK AT MOST 1048576: true; the input reads as it did. -/
def fnExactHyphenPointsUptoRow : OpenClaim := { program := "ytncgflkkmccadaa", sum := "a73705e882240735f0e52754a686c90256ac4f66d394702a7d448ad9c30dbc6e", func := "loop.example/typesetting/laws.FnExactHyphenPoints", spec := "fnExactHyphenPoints", inPlace := ["internal/abi.NoEscape"], apart := false, narrowed := true }
def FnExactHyphenPointsUptoSaid : Prop := fnExactHyphenPointsUptoRow.holds Try.pinned (OpenSpec.upto fnExactHyphenPointsSpec)

/-- 'laws.FnHyphenValues', WHERE WHAT IT READS IS OF BULK AT MOST 1048576: true; the input reads as it did. -/
def fnHyphenValuesUptoRow : OpenClaim := { program := "ytncgflkkmccadaa", sum := "a73705e882240735f0e52754a686c90256ac4f66d394702a7d448ad9c30dbc6e", func := "loop.example/typesetting/laws.FnHyphenValues", spec := "fnHyphenValues", inPlace := ["internal/abi.NoEscape"], recurses := true, apart := false, narrowed := true }
def FnHyphenValuesUptoSaid : Prop := fnHyphenValuesUptoRow.holds Try.pinned (OpenSpec.upto fnHyphenValuesSpec)

/-- 'laws.FnHyphenPoints', WHERE WHAT IT READS IS OF BULK AT MOST 1048576: true; the input reads as it did. -/
def fnHyphenPointsUptoRow : OpenClaim := { program := "ytncgflkkmccadaa", sum := "a73705e882240735f0e52754a686c90256ac4f66d394702a7d448ad9c30dbc6e", func := "loop.example/typesetting/laws.FnHyphenPoints", spec := "fnHyphenPoints", inPlace := ["internal/abi.NoEscape"], recurses := true, apart := false, narrowed := true }
def FnHyphenPointsUptoSaid : Prop := fnHyphenPointsUptoRow.holds Try.pinned (OpenSpec.upto fnHyphenPointsSpec)

/-- 'laws.FnHyphenNone', WHERE WHAT IT READS IS OF BULK AT MOST 1048576: true; the input reads as it did. -/
def fnHyphenNoneUptoRow : OpenClaim := { program := "ytncgflkkmccadaa", sum := "a73705e882240735f0e52754a686c90256ac4f66d394702a7d448ad9c30dbc6e", func := "loop.example/typesetting/laws.FnHyphenNone", spec := "fnHyphenNone", inPlace := ["internal/abi.NoEscape"], recurses := true, apart := false, narrowed := true }
def FnHyphenNoneUptoSaid : Prop := fnHyphenNoneUptoRow.holds Try.pinned (OpenSpec.upto fnHyphenNoneSpec)

/-- 'laws.FnSplitHyphens', WHERE WHAT IT READS IS OF BULK AT MOST 1048576: true; the input reads as it did. -/
def fnSplitHyphensUptoRow : OpenClaim := { program := "ytncgflkkmccadaa", sum := "a73705e882240735f0e52754a686c90256ac4f66d394702a7d448ad9c30dbc6e", func := "loop.example/typesetting/laws.FnSplitHyphens", spec := "fnSplitHyphens", inPlace := ["internal/abi.NoEscape"], recurses := true, apart := false, narrowed := true }
def FnSplitHyphensUptoSaid : Prop := fnSplitHyphensUptoRow.holds Try.pinned (OpenSpec.upto fnSplitHyphensSpec)

end Rows
end Go.Proofs.Ytncgflkkmccadaa
