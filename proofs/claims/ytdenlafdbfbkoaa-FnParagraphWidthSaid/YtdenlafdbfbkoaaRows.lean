/-
  No cell of these rows narrows 'for every input' (looked for: loops, veiled, ifaces, maps, wideKeys, modest, calm, conditions, laid).
  DERIVED. THE GIVEN ROWS OF THIS SEAT. 11 by the template 'for every input the law returns true; each argument reads behind the call as it read before'; 0 by the template 'total and deterministic' (their statements: YtdenlafdbfbkoaaTotals.lean).
  GIVEN WITH THE SEED: the statements are not yours to turn. If you find one false, say at which input.
  Laid BY PROGRAM, IN A SANDBOX (cutbox-rows.mjs): the forced cells as the released guide's own fill.sh prints them over the translation 49983a5a0ab9f00c… (all of the seat's roots in one cut). By AI agents, Wed Nov 11 2026. No macro, syntax, notation, axiom, sorry.
-/
import Derived.Test.YtdenlafdbfbkoaaChecked
import GoSem.Claim
import GoSem.ClaimJoined
import GoSem.ClaimMapViews
import Derived.JoinedTies
import Derived.KernelRfl
namespace Go.Proofs.Ytdenlafdbfbkoaa
/- THE CELL 'sum', in the pinned program and in every row, IS THE sha256 OF THE DUMP (.gsa) THAT YtdenlafdbfbkoaaProg.lean LOADS. Nothing in Lean hashes anything: it is a label: what it is worth is what the hold of that sum in a sandbox is worth. -/
noncomputable def Try.pinned : Pinned := { name := "ytdenlafdbfbkoaa", sum := "49983a5a0ab9f00cee506d484c04050665edefaa47a760bf1a9f601a2dd12b5a", checked := Try.checked }
namespace Rows
def none {H : Type} : Left H := { results := [], args := [] }

/-- 'laws.FnBuildParagraph': WHATEVER THE INPUT: true; the input reads as it did. -/
def fnBuildParagraphSpec : ChangeSpec := { name := "fnBuildParagraph", fn := fun _ => fun
  | [d] => { results := [.lit (.bool true)], args := [d] }
  | _ => none }
def fnBuildParagraphRow : OpenClaim := { program := "ytdenlafdbfbkoaa", sum := "49983a5a0ab9f00cee506d484c04050665edefaa47a760bf1a9f601a2dd12b5a", func := "loop.example/typesetting/laws.FnBuildParagraph", spec := "fnBuildParagraph", inPlace := ["internal/abi.NoEscape"], unfollowed := true, recurses := true, apart := false }
def FnBuildParagraphSaid : Prop := fnBuildParagraphRow.holds Try.pinned (OpenSpec.ofChange fnBuildParagraphSpec)

/-- ITS FALSE NEIGHBOUR: 'it returns false'. Refute it at one input. -/
def fnBuildParagraphWrong : ChangeSpec := { name := "fnBuildParagraph", fn := fun _ => fun
  | [d] => { results := [.lit (.bool false)], args := [d] }
  | _ => none }
def FnBuildParagraphWrongFalsely : Prop := fnBuildParagraphRow.holds Try.pinned (OpenSpec.ofChange fnBuildParagraphWrong)

/-- 'laws.FnParagraphWidth': WHATEVER THE INPUT: true; the input reads as it did. -/
def fnParagraphWidthSpec : ChangeSpec := { name := "fnParagraphWidth", fn := fun _ => fun
  | [d] => { results := [.lit (.bool true)], args := [d] }
  | _ => none }
def fnParagraphWidthRow : OpenClaim := { program := "ytdenlafdbfbkoaa", sum := "49983a5a0ab9f00cee506d484c04050665edefaa47a760bf1a9f601a2dd12b5a", func := "loop.example/typesetting/laws.FnParagraphWidth", spec := "fnParagraphWidth", inPlace := ["internal/abi.NoEscape"], unfollowed := true, recurses := true, apart := false }
def FnParagraphWidthSaid : Prop := fnParagraphWidthRow.holds Try.pinned (OpenSpec.ofChange fnParagraphWidthSpec)

/-- ITS FALSE NEIGHBOUR: 'it returns false'. Refute it at one input. -/
def fnParagraphWidthWrong : ChangeSpec := { name := "fnParagraphWidth", fn := fun _ => fun
  | [d] => { results := [.lit (.bool false)], args := [d] }
  | _ => none }
def FnParagraphWidthWrongFalsely : Prop := fnParagraphWidthRow.holds Try.pinned (OpenSpec.ofChange fnParagraphWidthWrong)

/-- 'laws.FnExactBuildParagraph': WHATEVER THE INPUT: true; the input reads as it did. -/
def fnExactBuildParagraphSpec : ChangeSpec := { name := "fnExactBuildParagraph", fn := fun _ => fun
  | [d1, d2, d3] => { results := [.lit (.bool true)], args := [d1, d2, d3] }
  | _ => none }
def fnExactBuildParagraphRow : OpenClaim := { program := "ytdenlafdbfbkoaa", sum := "49983a5a0ab9f00cee506d484c04050665edefaa47a760bf1a9f601a2dd12b5a", func := "loop.example/typesetting/laws.FnExactBuildParagraph", spec := "fnExactBuildParagraph", inPlace := ["internal/abi.NoEscape"], unfollowed := true, recurses := true, apart := false }
def FnExactBuildParagraphSaid : Prop := fnExactBuildParagraphRow.holds Try.pinned (OpenSpec.ofChange fnExactBuildParagraphSpec)

/-- ITS FALSE NEIGHBOUR: 'it returns false'. Refute it at one input. -/
def fnExactBuildParagraphWrong : ChangeSpec := { name := "fnExactBuildParagraph", fn := fun _ => fun
  | [d1, d2, d3] => { results := [.lit (.bool false)], args := [d1, d2, d3] }
  | _ => none }
def FnExactBuildParagraphWrongFalsely : Prop := fnExactBuildParagraphRow.holds Try.pinned (OpenSpec.ofChange fnExactBuildParagraphWrong)

/-- 'laws.FnExactValidFont': WHATEVER THE INPUT: true; the input reads as it did. -/
def fnExactValidFontSpec : ChangeSpec := { name := "fnExactValidFont", fn := fun _ => fun
  | [d] => { results := [.lit (.bool true)], args := [d] }
  | _ => none }
def fnExactValidFontRow : OpenClaim := { program := "ytdenlafdbfbkoaa", sum := "49983a5a0ab9f00cee506d484c04050665edefaa47a760bf1a9f601a2dd12b5a", func := "loop.example/typesetting/laws.FnExactValidFont", spec := "fnExactValidFont", apart := false }
def FnExactValidFontSaid : Prop := fnExactValidFontRow.holds Try.pinned (OpenSpec.ofChange fnExactValidFontSpec)

/-- ITS FALSE NEIGHBOUR: 'it returns false'. Refute it at one input. -/
def fnExactValidFontWrong : ChangeSpec := { name := "fnExactValidFont", fn := fun _ => fun
  | [d] => { results := [.lit (.bool false)], args := [d] }
  | _ => none }
def FnExactValidFontWrongFalsely : Prop := fnExactValidFontRow.holds Try.pinned (OpenSpec.ofChange fnExactValidFontWrong)

/-- 'laws.FnGlyphsWidth': WHATEVER THE INPUT: true; the input reads as it did. -/
def fnGlyphsWidthSpec : ChangeSpec := { name := "fnGlyphsWidth", fn := fun _ => fun
  | [d] => { results := [.lit (.bool true)], args := [d] }
  | _ => none }
def fnGlyphsWidthRow : OpenClaim := { program := "ytdenlafdbfbkoaa", sum := "49983a5a0ab9f00cee506d484c04050665edefaa47a760bf1a9f601a2dd12b5a", func := "loop.example/typesetting/laws.FnGlyphsWidth", spec := "fnGlyphsWidth", unfollowed := true, recurses := true, apart := false }
def FnGlyphsWidthSaid : Prop := fnGlyphsWidthRow.holds Try.pinned (OpenSpec.ofChange fnGlyphsWidthSpec)

/-- ITS FALSE NEIGHBOUR: 'it returns false'. Refute it at one input. -/
def fnGlyphsWidthWrong : ChangeSpec := { name := "fnGlyphsWidth", fn := fun _ => fun
  | [d] => { results := [.lit (.bool false)], args := [d] }
  | _ => none }
def FnGlyphsWidthWrongFalsely : Prop := fnGlyphsWidthRow.holds Try.pinned (OpenSpec.ofChange fnGlyphsWidthWrong)

/-- 'laws.FnGlyphsNoPairs': WHATEVER THE INPUT: true; the input reads as it did. -/
def fnGlyphsNoPairsSpec : ChangeSpec := { name := "fnGlyphsNoPairs", fn := fun _ => fun
  | [d] => { results := [.lit (.bool true)], args := [d] }
  | _ => none }
def fnGlyphsNoPairsRow : OpenClaim := { program := "ytdenlafdbfbkoaa", sum := "49983a5a0ab9f00cee506d484c04050665edefaa47a760bf1a9f601a2dd12b5a", func := "loop.example/typesetting/laws.FnGlyphsNoPairs", spec := "fnGlyphsNoPairs", unfollowed := true, recurses := true, apart := false }
def FnGlyphsNoPairsSaid : Prop := fnGlyphsNoPairsRow.holds Try.pinned (OpenSpec.ofChange fnGlyphsNoPairsSpec)

/-- ITS FALSE NEIGHBOUR: 'it returns false'. Refute it at one input. -/
def fnGlyphsNoPairsWrong : ChangeSpec := { name := "fnGlyphsNoPairs", fn := fun _ => fun
  | [d] => { results := [.lit (.bool false)], args := [d] }
  | _ => none }
def FnGlyphsNoPairsWrongFalsely : Prop := fnGlyphsNoPairsRow.holds Try.pinned (OpenSpec.ofChange fnGlyphsNoPairsWrong)

/-- 'laws.FnGlyphsOf': WHATEVER THE INPUT: true; the input reads as it did. -/
def fnGlyphsOfSpec : ChangeSpec := { name := "fnGlyphsOf", fn := fun _ => fun
  | [d] => { results := [.lit (.bool true)], args := [d] }
  | _ => none }
def fnGlyphsOfRow : OpenClaim := { program := "ytdenlafdbfbkoaa", sum := "49983a5a0ab9f00cee506d484c04050665edefaa47a760bf1a9f601a2dd12b5a", func := "loop.example/typesetting/laws.FnGlyphsOf", spec := "fnGlyphsOf", unfollowed := true, recurses := true, apart := false }
def FnGlyphsOfSaid : Prop := fnGlyphsOfRow.holds Try.pinned (OpenSpec.ofChange fnGlyphsOfSpec)

/-- ITS FALSE NEIGHBOUR: 'it returns false'. Refute it at one input. -/
def fnGlyphsOfWrong : ChangeSpec := { name := "fnGlyphsOf", fn := fun _ => fun
  | [d] => { results := [.lit (.bool false)], args := [d] }
  | _ => none }
def FnGlyphsOfWrongFalsely : Prop := fnGlyphsOfRow.holds Try.pinned (OpenSpec.ofChange fnGlyphsOfWrong)

/-- 'laws.FnExactGlyphsWidth': WHATEVER THE INPUT: true; the input reads as it did. -/
def fnExactGlyphsWidthSpec : ChangeSpec := { name := "fnExactGlyphsWidth", fn := fun _ => fun
  | [d1, d2] => { results := [.lit (.bool true)], args := [d1, d2] }
  | _ => none }
def fnExactGlyphsWidthRow : OpenClaim := { program := "ytdenlafdbfbkoaa", sum := "49983a5a0ab9f00cee506d484c04050665edefaa47a760bf1a9f601a2dd12b5a", func := "loop.example/typesetting/laws.FnExactGlyphsWidth", spec := "fnExactGlyphsWidth", unfollowed := true, recurses := true, apart := false }
def FnExactGlyphsWidthSaid : Prop := fnExactGlyphsWidthRow.holds Try.pinned (OpenSpec.ofChange fnExactGlyphsWidthSpec)

/-- ITS FALSE NEIGHBOUR: 'it returns false'. Refute it at one input. -/
def fnExactGlyphsWidthWrong : ChangeSpec := { name := "fnExactGlyphsWidth", fn := fun _ => fun
  | [d1, d2] => { results := [.lit (.bool false)], args := [d1, d2] }
  | _ => none }
def FnExactGlyphsWidthWrongFalsely : Prop := fnExactGlyphsWidthRow.holds Try.pinned (OpenSpec.ofChange fnExactGlyphsWidthWrong)

/-- 'laws.FnWordWidth': WHATEVER THE INPUT: true; the input reads as it did. -/
def fnWordWidthSpec : ChangeSpec := { name := "fnWordWidth", fn := fun _ => fun
  | [d] => { results := [.lit (.bool true)], args := [d] }
  | _ => none }
def fnWordWidthRow : OpenClaim := { program := "ytdenlafdbfbkoaa", sum := "49983a5a0ab9f00cee506d484c04050665edefaa47a760bf1a9f601a2dd12b5a", func := "loop.example/typesetting/laws.FnWordWidth", spec := "fnWordWidth", unfollowed := true, recurses := true, apart := false }
def FnWordWidthSaid : Prop := fnWordWidthRow.holds Try.pinned (OpenSpec.ofChange fnWordWidthSpec)

/-- ITS FALSE NEIGHBOUR: 'it returns false'. Refute it at one input. -/
def fnWordWidthWrong : ChangeSpec := { name := "fnWordWidth", fn := fun _ => fun
  | [d] => { results := [.lit (.bool false)], args := [d] }
  | _ => none }
def FnWordWidthWrongFalsely : Prop := fnWordWidthRow.holds Try.pinned (OpenSpec.ofChange fnWordWidthWrong)

/-- 'laws.FnExactGlyphsOf': WHATEVER THE INPUT: true; the input reads as it did. -/
def fnExactGlyphsOfSpec : ChangeSpec := { name := "fnExactGlyphsOf", fn := fun _ => fun
  | [d1, d2] => { results := [.lit (.bool true)], args := [d1, d2] }
  | _ => none }
def fnExactGlyphsOfRow : OpenClaim := { program := "ytdenlafdbfbkoaa", sum := "49983a5a0ab9f00cee506d484c04050665edefaa47a760bf1a9f601a2dd12b5a", func := "loop.example/typesetting/laws.FnExactGlyphsOf", spec := "fnExactGlyphsOf", unfollowed := true, recurses := true, apart := false }
def FnExactGlyphsOfSaid : Prop := fnExactGlyphsOfRow.holds Try.pinned (OpenSpec.ofChange fnExactGlyphsOfSpec)

/-- ITS FALSE NEIGHBOUR: 'it returns false'. Refute it at one input. -/
def fnExactGlyphsOfWrong : ChangeSpec := { name := "fnExactGlyphsOf", fn := fun _ => fun
  | [d1, d2] => { results := [.lit (.bool false)], args := [d1, d2] }
  | _ => none }
def FnExactGlyphsOfWrongFalsely : Prop := fnExactGlyphsOfRow.holds Try.pinned (OpenSpec.ofChange fnExactGlyphsOfWrong)

/-- 'laws.FnExactWordWidth': WHATEVER THE INPUT: true; the input reads as it did. -/
def fnExactWordWidthSpec : ChangeSpec := { name := "fnExactWordWidth", fn := fun _ => fun
  | [d1, d2] => { results := [.lit (.bool true)], args := [d1, d2] }
  | _ => none }
def fnExactWordWidthRow : OpenClaim := { program := "ytdenlafdbfbkoaa", sum := "49983a5a0ab9f00cee506d484c04050665edefaa47a760bf1a9f601a2dd12b5a", func := "loop.example/typesetting/laws.FnExactWordWidth", spec := "fnExactWordWidth", unfollowed := true, recurses := true, apart := false }
def FnExactWordWidthSaid : Prop := fnExactWordWidthRow.holds Try.pinned (OpenSpec.ofChange fnExactWordWidthSpec)

/-- ITS FALSE NEIGHBOUR: 'it returns false'. Refute it at one input. -/
def fnExactWordWidthWrong : ChangeSpec := { name := "fnExactWordWidth", fn := fun _ => fun
  | [d1, d2] => { results := [.lit (.bool false)], args := [d1, d2] }
  | _ => none }
def FnExactWordWidthWrongFalsely : Prop := fnExactWordWidthRow.holds Try.pinned (OpenSpec.ofChange fnExactWordWidthWrong)

/- THE SECOND FORM. 'bulk': how many values and letters a reading holds, each counted each time it is reached (what is shared counts as often as it is met; a slice's spare places count too). A statement '..UptoSaid' is the law's where the arguments, and the package variables that the reading takes, are together of bulk at most 1048576: NARROWER than '..Said'. Prove '..Said' where nothing that the law and all that it calls make is longer than what came in: it says more and counts as full. Else prove '..UptoSaid'. A law counts once. -/
mutual
def uptoBulk {H : Type} : DataW H → Nat
  | .lit (.string bytes) => bytes.length + 1
  | .lit _ => 1
  | .nil => 1
  | .ptr d => uptoBulk d + 1
  | .slice elems spare => uptoBulkAll elems + uptoBulkAll spare + 1
  | .agg parts => uptoBulkAll parts + 1
  | .iface _ d => uptoBulk d + 1
  | .map entries => uptoBulkEntries entries + 1
  | .held _ => 1
def uptoBulkAll {H : Type} : List (DataW H) → Nat
  | [] => 0
  | d :: r => uptoBulk d + uptoBulkAll r
def uptoBulkEntries {H : Type} : List (Lit × DataW H) → Nat
  | [] => 0
  | x :: r => uptoBulkEntry x + uptoBulkEntries r
def uptoBulkEntry {H : Type} : Lit × DataW H → Nat
  | (.string bytes, d) => bytes.length + uptoBulk d + 1
  | (_, d) => uptoBulk d + 1
 end
def uptoSmall : (H : Type) → List (DataW H) → Bool := fun _ ds => decide (uptoBulkAll ds ≤ 1048576)
def OpenSpec.upto (s : _root_.Go.ChangeSpec) : _root_.Go.OpenSpec := { _root_.Go.OpenSpec.ofChange s with cond := some uptoSmall }

/-- 'laws.FnBuildParagraph', WHERE WHAT IT READS IS OF BULK AT MOST 1048576: true; the input reads as it did. -/
def fnBuildParagraphUptoRow : OpenClaim := { program := "ytdenlafdbfbkoaa", sum := "49983a5a0ab9f00cee506d484c04050665edefaa47a760bf1a9f601a2dd12b5a", func := "loop.example/typesetting/laws.FnBuildParagraph", spec := "fnBuildParagraph", inPlace := ["internal/abi.NoEscape"], unfollowed := true, recurses := true, apart := false, narrowed := true }
def FnBuildParagraphUptoSaid : Prop := fnBuildParagraphUptoRow.holds Try.pinned (OpenSpec.upto fnBuildParagraphSpec)

/-- 'laws.FnParagraphWidth', WHERE WHAT IT READS IS OF BULK AT MOST 1048576: true; the input reads as it did. -/
def fnParagraphWidthUptoRow : OpenClaim := { program := "ytdenlafdbfbkoaa", sum := "49983a5a0ab9f00cee506d484c04050665edefaa47a760bf1a9f601a2dd12b5a", func := "loop.example/typesetting/laws.FnParagraphWidth", spec := "fnParagraphWidth", inPlace := ["internal/abi.NoEscape"], unfollowed := true, recurses := true, apart := false, narrowed := true }
def FnParagraphWidthUptoSaid : Prop := fnParagraphWidthUptoRow.holds Try.pinned (OpenSpec.upto fnParagraphWidthSpec)

/-- 'laws.FnExactBuildParagraph', WHERE WHAT IT READS IS OF BULK AT MOST 1048576: true; the input reads as it did. -/
def fnExactBuildParagraphUptoRow : OpenClaim := { program := "ytdenlafdbfbkoaa", sum := "49983a5a0ab9f00cee506d484c04050665edefaa47a760bf1a9f601a2dd12b5a", func := "loop.example/typesetting/laws.FnExactBuildParagraph", spec := "fnExactBuildParagraph", inPlace := ["internal/abi.NoEscape"], unfollowed := true, recurses := true, apart := false, narrowed := true }
def FnExactBuildParagraphUptoSaid : Prop := fnExactBuildParagraphUptoRow.holds Try.pinned (OpenSpec.upto fnExactBuildParagraphSpec)

/-- 'laws.FnExactValidFont', WHERE WHAT IT READS IS OF BULK AT MOST 1048576: true; the input reads as it did. -/
def fnExactValidFontUptoRow : OpenClaim := { program := "ytdenlafdbfbkoaa", sum := "49983a5a0ab9f00cee506d484c04050665edefaa47a760bf1a9f601a2dd12b5a", func := "loop.example/typesetting/laws.FnExactValidFont", spec := "fnExactValidFont", apart := false, narrowed := true }
def FnExactValidFontUptoSaid : Prop := fnExactValidFontUptoRow.holds Try.pinned (OpenSpec.upto fnExactValidFontSpec)

/-- 'laws.FnGlyphsWidth', WHERE WHAT IT READS IS OF BULK AT MOST 1048576: true; the input reads as it did. -/
def fnGlyphsWidthUptoRow : OpenClaim := { program := "ytdenlafdbfbkoaa", sum := "49983a5a0ab9f00cee506d484c04050665edefaa47a760bf1a9f601a2dd12b5a", func := "loop.example/typesetting/laws.FnGlyphsWidth", spec := "fnGlyphsWidth", unfollowed := true, recurses := true, apart := false, narrowed := true }
def FnGlyphsWidthUptoSaid : Prop := fnGlyphsWidthUptoRow.holds Try.pinned (OpenSpec.upto fnGlyphsWidthSpec)

/-- 'laws.FnGlyphsNoPairs', WHERE WHAT IT READS IS OF BULK AT MOST 1048576: true; the input reads as it did. -/
def fnGlyphsNoPairsUptoRow : OpenClaim := { program := "ytdenlafdbfbkoaa", sum := "49983a5a0ab9f00cee506d484c04050665edefaa47a760bf1a9f601a2dd12b5a", func := "loop.example/typesetting/laws.FnGlyphsNoPairs", spec := "fnGlyphsNoPairs", unfollowed := true, recurses := true, apart := false, narrowed := true }
def FnGlyphsNoPairsUptoSaid : Prop := fnGlyphsNoPairsUptoRow.holds Try.pinned (OpenSpec.upto fnGlyphsNoPairsSpec)

/-- 'laws.FnGlyphsOf', WHERE WHAT IT READS IS OF BULK AT MOST 1048576: true; the input reads as it did. -/
def fnGlyphsOfUptoRow : OpenClaim := { program := "ytdenlafdbfbkoaa", sum := "49983a5a0ab9f00cee506d484c04050665edefaa47a760bf1a9f601a2dd12b5a", func := "loop.example/typesetting/laws.FnGlyphsOf", spec := "fnGlyphsOf", unfollowed := true, recurses := true, apart := false, narrowed := true }
def FnGlyphsOfUptoSaid : Prop := fnGlyphsOfUptoRow.holds Try.pinned (OpenSpec.upto fnGlyphsOfSpec)

/-- 'laws.FnExactGlyphsWidth', WHERE WHAT IT READS IS OF BULK AT MOST 1048576: true; the input reads as it did. -/
def fnExactGlyphsWidthUptoRow : OpenClaim := { program := "ytdenlafdbfbkoaa", sum := "49983a5a0ab9f00cee506d484c04050665edefaa47a760bf1a9f601a2dd12b5a", func := "loop.example/typesetting/laws.FnExactGlyphsWidth", spec := "fnExactGlyphsWidth", unfollowed := true, recurses := true, apart := false, narrowed := true }
def FnExactGlyphsWidthUptoSaid : Prop := fnExactGlyphsWidthUptoRow.holds Try.pinned (OpenSpec.upto fnExactGlyphsWidthSpec)

/-- 'laws.FnWordWidth', WHERE WHAT IT READS IS OF BULK AT MOST 1048576: true; the input reads as it did. -/
def fnWordWidthUptoRow : OpenClaim := { program := "ytdenlafdbfbkoaa", sum := "49983a5a0ab9f00cee506d484c04050665edefaa47a760bf1a9f601a2dd12b5a", func := "loop.example/typesetting/laws.FnWordWidth", spec := "fnWordWidth", unfollowed := true, recurses := true, apart := false, narrowed := true }
def FnWordWidthUptoSaid : Prop := fnWordWidthUptoRow.holds Try.pinned (OpenSpec.upto fnWordWidthSpec)

/-- 'laws.FnExactGlyphsOf', WHERE WHAT IT READS IS OF BULK AT MOST 1048576: true; the input reads as it did. -/
def fnExactGlyphsOfUptoRow : OpenClaim := { program := "ytdenlafdbfbkoaa", sum := "49983a5a0ab9f00cee506d484c04050665edefaa47a760bf1a9f601a2dd12b5a", func := "loop.example/typesetting/laws.FnExactGlyphsOf", spec := "fnExactGlyphsOf", unfollowed := true, recurses := true, apart := false, narrowed := true }
def FnExactGlyphsOfUptoSaid : Prop := fnExactGlyphsOfUptoRow.holds Try.pinned (OpenSpec.upto fnExactGlyphsOfSpec)

/-- 'laws.FnExactWordWidth', WHERE WHAT IT READS IS OF BULK AT MOST 1048576: true; the input reads as it did. -/
def fnExactWordWidthUptoRow : OpenClaim := { program := "ytdenlafdbfbkoaa", sum := "49983a5a0ab9f00cee506d484c04050665edefaa47a760bf1a9f601a2dd12b5a", func := "loop.example/typesetting/laws.FnExactWordWidth", spec := "fnExactWordWidth", unfollowed := true, recurses := true, apart := false, narrowed := true }
def FnExactWordWidthUptoSaid : Prop := fnExactWordWidthUptoRow.holds Try.pinned (OpenSpec.upto fnExactWordWidthSpec)

end Rows
end Go.Proofs.Ytdenlafdbfbkoaa
