/-
  No cell of these rows narrows 'for every input' (looked for: loops, veiled, ifaces, maps, wideKeys, modest, calm, conditions, laid).
  DERIVED. THE GIVEN ROWS OF THIS SEAT. 10 by the template 'for every input the law returns true; each argument reads behind the call as it read before'; 0 by the template 'total and deterministic' (their statements: YtmnbmjiemjankaaTotals.lean).
  GIVEN WITH THE SEED: the statements are not yours to turn. If you find one false, say at which input.
  Laid BY PROGRAM, IN A SANDBOX (cutbox-rows.mjs): the forced cells as the released guide's own fill.sh prints them over the translation bbbc89989ab7e827… (all of the seat's roots in one cut). By AI agents, Wed Nov 11 2026. No macro, syntax, notation, axiom, sorry.
-/
import Derived.Test.YtmnbmjiemjankaaChecked
import GoSem.Claim
import GoSem.ClaimJoined
import GoSem.ClaimMapViews
import Derived.JoinedTies
import Derived.KernelRfl
namespace Go.Proofs.Ytmnbmjiemjankaa
/- THE CELL 'sum', in the pinned program and in every row, IS THE sha256 OF THE DUMP (.gsa) THAT YtmnbmjiemjankaaProg.lean LOADS. Nothing in Lean hashes anything: it is a label: what it is worth is what the hold of that sum in a sandbox is worth. -/
noncomputable def Try.pinned : Pinned := { name := "ytmnbmjiemjankaa", sum := "bbbc89989ab7e827c6910ff235a38f4928100833ebbb62d3ae63bf2a4135f9ac", checked := Try.checked }
namespace Rows
def none {H : Type} : Left H := { results := [], args := [] }

/-- 'laws.FnExactValidItems': WHATEVER THE INPUT: true; the input reads as it did. -/
def fnExactValidItemsSpec : ChangeSpec := { name := "fnExactValidItems", fn := fun _ => fun
  | [d] => { results := [.lit (.bool true)], args := [d] }
  | _ => none }
def fnExactValidItemsRow : OpenClaim := { program := "ytmnbmjiemjankaa", sum := "bbbc89989ab7e827c6910ff235a38f4928100833ebbb62d3ae63bf2a4135f9ac", func := "loop.example/typesetting/laws.FnExactValidItems", spec := "fnExactValidItems", apart := false }
def FnExactValidItemsSaid : Prop := fnExactValidItemsRow.holds Try.pinned (OpenSpec.ofChange fnExactValidItemsSpec)

/-- ITS FALSE NEIGHBOUR: 'it returns false'. Refute it at one input. -/
def fnExactValidItemsWrong : ChangeSpec := { name := "fnExactValidItems", fn := fun _ => fun
  | [d] => { results := [.lit (.bool false)], args := [d] }
  | _ => none }
def FnExactValidItemsWrongFalsely : Prop := fnExactValidItemsRow.holds Try.pinned (OpenSpec.ofChange fnExactValidItemsWrong)

/-- 'laws.FnBreaksOf': WHATEVER THE INPUT: true; the input reads as it did. -/
def fnBreaksOfSpec : ChangeSpec := { name := "fnBreaksOf", fn := fun _ => fun
  | [d] => { results := [.lit (.bool true)], args := [d] }
  | _ => none }
def fnBreaksOfRow : OpenClaim := { program := "ytmnbmjiemjankaa", sum := "bbbc89989ab7e827c6910ff235a38f4928100833ebbb62d3ae63bf2a4135f9ac", func := "loop.example/typesetting/laws.FnBreaksOf", spec := "fnBreaksOf", apart := false }
def FnBreaksOfSaid : Prop := fnBreaksOfRow.holds Try.pinned (OpenSpec.ofChange fnBreaksOfSpec)

/-- ITS FALSE NEIGHBOUR: 'it returns false'. Refute it at one input. -/
def fnBreaksOfWrong : ChangeSpec := { name := "fnBreaksOf", fn := fun _ => fun
  | [d] => { results := [.lit (.bool false)], args := [d] }
  | _ => none }
def FnBreaksOfWrongFalsely : Prop := fnBreaksOfRow.holds Try.pinned (OpenSpec.ofChange fnBreaksOfWrong)

/-- 'laws.FnForcedBreaks': WHATEVER THE INPUT: true; the input reads as it did. -/
def fnForcedBreaksSpec : ChangeSpec := { name := "fnForcedBreaks", fn := fun _ => fun
  | [d] => { results := [.lit (.bool true)], args := [d] }
  | _ => none }
def fnForcedBreaksRow : OpenClaim := { program := "ytmnbmjiemjankaa", sum := "bbbc89989ab7e827c6910ff235a38f4928100833ebbb62d3ae63bf2a4135f9ac", func := "loop.example/typesetting/laws.FnForcedBreaks", spec := "fnForcedBreaks", apart := false }
def FnForcedBreaksSaid : Prop := fnForcedBreaksRow.holds Try.pinned (OpenSpec.ofChange fnForcedBreaksSpec)

/-- ITS FALSE NEIGHBOUR: 'it returns false'. Refute it at one input. -/
def fnForcedBreaksWrong : ChangeSpec := { name := "fnForcedBreaks", fn := fun _ => fun
  | [d] => { results := [.lit (.bool false)], args := [d] }
  | _ => none }
def FnForcedBreaksWrongFalsely : Prop := fnForcedBreaksRow.holds Try.pinned (OpenSpec.ofChange fnForcedBreaksWrong)

/-- 'laws.FnExactForcedBreaks': WHATEVER THE INPUT: true; the input reads as it did. -/
def fnExactForcedBreaksSpec : ChangeSpec := { name := "fnExactForcedBreaks", fn := fun _ => fun
  | [d] => { results := [.lit (.bool true)], args := [d] }
  | _ => none }
def fnExactForcedBreaksRow : OpenClaim := { program := "ytmnbmjiemjankaa", sum := "bbbc89989ab7e827c6910ff235a38f4928100833ebbb62d3ae63bf2a4135f9ac", func := "loop.example/typesetting/laws.FnExactForcedBreaks", spec := "fnExactForcedBreaks", apart := false }
def FnExactForcedBreaksSaid : Prop := fnExactForcedBreaksRow.holds Try.pinned (OpenSpec.ofChange fnExactForcedBreaksSpec)

/-- ITS FALSE NEIGHBOUR: 'it returns false'. Refute it at one input. -/
def fnExactForcedBreaksWrong : ChangeSpec := { name := "fnExactForcedBreaks", fn := fun _ => fun
  | [d] => { results := [.lit (.bool false)], args := [d] }
  | _ => none }
def FnExactForcedBreaksWrongFalsely : Prop := fnExactForcedBreaksRow.holds Try.pinned (OpenSpec.ofChange fnExactForcedBreaksWrong)

/-- 'laws.FnExactBreaksOf': WHATEVER THE INPUT: true; the input reads as it did. -/
def fnExactBreaksOfSpec : ChangeSpec := { name := "fnExactBreaksOf", fn := fun _ => fun
  | [d] => { results := [.lit (.bool true)], args := [d] }
  | _ => none }
def fnExactBreaksOfRow : OpenClaim := { program := "ytmnbmjiemjankaa", sum := "bbbc89989ab7e827c6910ff235a38f4928100833ebbb62d3ae63bf2a4135f9ac", func := "loop.example/typesetting/laws.FnExactBreaksOf", spec := "fnExactBreaksOf", apart := false }
def FnExactBreaksOfSaid : Prop := fnExactBreaksOfRow.holds Try.pinned (OpenSpec.ofChange fnExactBreaksOfSpec)

/-- ITS FALSE NEIGHBOUR: 'it returns false'. Refute it at one input. -/
def fnExactBreaksOfWrong : ChangeSpec := { name := "fnExactBreaksOf", fn := fun _ => fun
  | [d] => { results := [.lit (.bool false)], args := [d] }
  | _ => none }
def FnExactBreaksOfWrongFalsely : Prop := fnExactBreaksOfRow.holds Try.pinned (OpenSpec.ofChange fnExactBreaksOfWrong)

/-- 'laws.FnExactValidBreaks': WHATEVER THE INPUT: true; the input reads as it did. -/
def fnExactValidBreaksSpec : ChangeSpec := { name := "fnExactValidBreaks", fn := fun _ => fun
  | [d1, d2] => { results := [.lit (.bool true)], args := [d1, d2] }
  | _ => none }
def fnExactValidBreaksRow : OpenClaim := { program := "ytmnbmjiemjankaa", sum := "bbbc89989ab7e827c6910ff235a38f4928100833ebbb62d3ae63bf2a4135f9ac", func := "loop.example/typesetting/laws.FnExactValidBreaks", spec := "fnExactValidBreaks", unfollowed := true, recurses := true, apart := false }
def FnExactValidBreaksSaid : Prop := fnExactValidBreaksRow.holds Try.pinned (OpenSpec.ofChange fnExactValidBreaksSpec)

/-- ITS FALSE NEIGHBOUR: 'it returns false'. Refute it at one input. -/
def fnExactValidBreaksWrong : ChangeSpec := { name := "fnExactValidBreaks", fn := fun _ => fun
  | [d1, d2] => { results := [.lit (.bool false)], args := [d1, d2] }
  | _ => none }
def FnExactValidBreaksWrongFalsely : Prop := fnExactValidBreaksRow.holds Try.pinned (OpenSpec.ofChange fnExactValidBreaksWrong)

/-- 'laws.FnExactLineGlue': WHATEVER THE INPUT: true; the input reads as it did. -/
def fnExactLineGlueSpec : ChangeSpec := { name := "fnExactLineGlue", fn := fun _ => fun
  | [d1, d2, d3] => { results := [.lit (.bool true)], args := [d1, d2, d3] }
  | _ => none }
def fnExactLineGlueRow : OpenClaim := { program := "ytmnbmjiemjankaa", sum := "bbbc89989ab7e827c6910ff235a38f4928100833ebbb62d3ae63bf2a4135f9ac", func := "loop.example/typesetting/laws.FnExactLineGlue", spec := "fnExactLineGlue", unfollowed := true, recurses := true, apart := false }
def FnExactLineGlueSaid : Prop := fnExactLineGlueRow.holds Try.pinned (OpenSpec.ofChange fnExactLineGlueSpec)

/-- ITS FALSE NEIGHBOUR: 'it returns false'. Refute it at one input. -/
def fnExactLineGlueWrong : ChangeSpec := { name := "fnExactLineGlue", fn := fun _ => fun
  | [d1, d2, d3] => { results := [.lit (.bool false)], args := [d1, d2, d3] }
  | _ => none }
def FnExactLineGlueWrongFalsely : Prop := fnExactLineGlueRow.holds Try.pinned (OpenSpec.ofChange fnExactLineGlueWrong)

/-- 'laws.FnLineLonger': WHATEVER THE INPUT: true; the input reads as it did. -/
def fnLineLongerSpec : ChangeSpec := { name := "fnLineLonger", fn := fun _ => fun
  | [d] => { results := [.lit (.bool true)], args := [d] }
  | _ => none }
def fnLineLongerRow : OpenClaim := { program := "ytmnbmjiemjankaa", sum := "bbbc89989ab7e827c6910ff235a38f4928100833ebbb62d3ae63bf2a4135f9ac", func := "loop.example/typesetting/laws.FnLineLonger", spec := "fnLineLonger", unfollowed := true, recurses := true, apart := false }
def FnLineLongerSaid : Prop := fnLineLongerRow.holds Try.pinned (OpenSpec.ofChange fnLineLongerSpec)

/-- ITS FALSE NEIGHBOUR: 'it returns false'. Refute it at one input. -/
def fnLineLongerWrong : ChangeSpec := { name := "fnLineLonger", fn := fun _ => fun
  | [d] => { results := [.lit (.bool false)], args := [d] }
  | _ => none }
def FnLineLongerWrongFalsely : Prop := fnLineLongerRow.holds Try.pinned (OpenSpec.ofChange fnLineLongerWrong)

/-- 'laws.FnExactFitLine': WHATEVER THE INPUT: true; the input reads as it did. -/
def fnExactFitLineSpec : ChangeSpec := { name := "fnExactFitLine", fn := fun _ => fun
  | [d1, d2, d3, d4] => { results := [.lit (.bool true)], args := [d1, d2, d3, d4] }
  | _ => none }
def fnExactFitLineRow : OpenClaim := { program := "ytmnbmjiemjankaa", sum := "bbbc89989ab7e827c6910ff235a38f4928100833ebbb62d3ae63bf2a4135f9ac", func := "loop.example/typesetting/laws.FnExactFitLine", spec := "fnExactFitLine", unfollowed := true, recurses := true, apart := false }
def FnExactFitLineSaid : Prop := fnExactFitLineRow.holds Try.pinned (OpenSpec.ofChange fnExactFitLineSpec)

/-- ITS FALSE NEIGHBOUR: 'it returns false'. Refute it at one input. -/
def fnExactFitLineWrong : ChangeSpec := { name := "fnExactFitLine", fn := fun _ => fun
  | [d1, d2, d3, d4] => { results := [.lit (.bool false)], args := [d1, d2, d3, d4] }
  | _ => none }
def FnExactFitLineWrongFalsely : Prop := fnExactFitLineRow.holds Try.pinned (OpenSpec.ofChange fnExactFitLineWrong)

/-- 'laws.FnFitLine': WHATEVER THE INPUT: true; the input reads as it did. -/
def fnFitLineSpec : ChangeSpec := { name := "fnFitLine", fn := fun _ => fun
  | [d] => { results := [.lit (.bool true)], args := [d] }
  | _ => none }
def fnFitLineRow : OpenClaim := { program := "ytmnbmjiemjankaa", sum := "bbbc89989ab7e827c6910ff235a38f4928100833ebbb62d3ae63bf2a4135f9ac", func := "loop.example/typesetting/laws.FnFitLine", spec := "fnFitLine", unfollowed := true, recurses := true, apart := false }
def FnFitLineSaid : Prop := fnFitLineRow.holds Try.pinned (OpenSpec.ofChange fnFitLineSpec)

/-- ITS FALSE NEIGHBOUR: 'it returns false'. Refute it at one input. -/
def fnFitLineWrong : ChangeSpec := { name := "fnFitLine", fn := fun _ => fun
  | [d] => { results := [.lit (.bool false)], args := [d] }
  | _ => none }
def FnFitLineWrongFalsely : Prop := fnFitLineRow.holds Try.pinned (OpenSpec.ofChange fnFitLineWrong)

/- THE SECOND FORM. 'bulk': how many values and letters a reading holds, each counted each time it is reached (what is shared counts as often as it is met; a slice's spare places count too). A statement '..UptoSaid' is the law's where the arguments, and the package variables that the reading takes, are together of bulk at most 1048576: NARROWER than '..Said'. Prove '..Said' where nothing that the law and all that it calls make is longer than what came in: it says more and counts as full. Else prove '..UptoSaid'. A law counts once. -/
mutual
def uptoBulk {H : Type} : DataW H → Nat
  | .lit (.string bytes) => bytes.length + 1
  | .lit _ => 1
  | .nil => 1
  | .ptr d => uptoBulk d + 1
  | .slice elems spare => uptoBulkAll elems + uptoBulkAll spare + 1
  | .agg parts => uptoBulkAll parts + 1
  | .iface _ d => uptoBulk d + 1
  | .map entries => uptoBulkEntries entries + 1
  | .held _ => 1
def uptoBulkAll {H : Type} : List (DataW H) → Nat
  | [] => 0
  | d :: r => uptoBulk d + uptoBulkAll r
def uptoBulkEntries {H : Type} : List (Lit × DataW H) → Nat
  | [] => 0
  | x :: r => uptoBulkEntry x + uptoBulkEntries r
def uptoBulkEntry {H : Type} : Lit × DataW H → Nat
  | (.string bytes, d) => bytes.length + uptoBulk d + 1
  | (_, d) => uptoBulk d + 1
 end
def uptoSmall : (H : Type) → List (DataW H) → Bool := fun _ ds => decide (uptoBulkAll ds ≤ 1048576)
def OpenSpec.upto (s : _root_.Go.ChangeSpec) : _root_.Go.OpenSpec := { _root_.Go.OpenSpec.ofChange s with cond := some uptoSmall }

/-- 'laws.FnExactValidItems', WHERE WHAT IT READS IS OF BULK AT MOST 1048576: true; the input reads as it did. -/
def fnExactValidItemsUptoRow : OpenClaim := { program := "ytmnbmjiemjankaa", sum := "bbbc89989ab7e827c6910ff235a38f4928100833ebbb62d3ae63bf2a4135f9ac", func := "loop.example/typesetting/laws.FnExactValidItems", spec := "fnExactValidItems", apart := false, narrowed := true }
def FnExactValidItemsUptoSaid : Prop := fnExactValidItemsUptoRow.holds Try.pinned (OpenSpec.upto fnExactValidItemsSpec)

/-- 'laws.FnBreaksOf', WHERE WHAT IT READS IS OF BULK AT MOST 1048576: true; the input reads as it did. -/
def fnBreaksOfUptoRow : OpenClaim := { program := "ytmnbmjiemjankaa", sum := "bbbc89989ab7e827c6910ff235a38f4928100833ebbb62d3ae63bf2a4135f9ac", func := "loop.example/typesetting/laws.FnBreaksOf", spec := "fnBreaksOf", apart := false, narrowed := true }
def FnBreaksOfUptoSaid : Prop := fnBreaksOfUptoRow.holds Try.pinned (OpenSpec.upto fnBreaksOfSpec)

/-- 'laws.FnForcedBreaks', WHERE WHAT IT READS IS OF BULK AT MOST 1048576: true; the input reads as it did. -/
def fnForcedBreaksUptoRow : OpenClaim := { program := "ytmnbmjiemjankaa", sum := "bbbc89989ab7e827c6910ff235a38f4928100833ebbb62d3ae63bf2a4135f9ac", func := "loop.example/typesetting/laws.FnForcedBreaks", spec := "fnForcedBreaks", apart := false, narrowed := true }
def FnForcedBreaksUptoSaid : Prop := fnForcedBreaksUptoRow.holds Try.pinned (OpenSpec.upto fnForcedBreaksSpec)

/-- 'laws.FnExactForcedBreaks', WHERE WHAT IT READS IS OF BULK AT MOST 1048576: true; the input reads as it did. -/
def fnExactForcedBreaksUptoRow : OpenClaim := { program := "ytmnbmjiemjankaa", sum := "bbbc89989ab7e827c6910ff235a38f4928100833ebbb62d3ae63bf2a4135f9ac", func := "loop.example/typesetting/laws.FnExactForcedBreaks", spec := "fnExactForcedBreaks", apart := false, narrowed := true }
def FnExactForcedBreaksUptoSaid : Prop := fnExactForcedBreaksUptoRow.holds Try.pinned (OpenSpec.upto fnExactForcedBreaksSpec)

/-- 'laws.FnExactBreaksOf', WHERE WHAT IT READS IS OF BULK AT MOST 1048576: true; the input reads as it did. -/
def fnExactBreaksOfUptoRow : OpenClaim := { program := "ytmnbmjiemjankaa", sum := "bbbc89989ab7e827c6910ff235a38f4928100833ebbb62d3ae63bf2a4135f9ac", func := "loop.example/typesetting/laws.FnExactBreaksOf", spec := "fnExactBreaksOf", apart := false, narrowed := true }
def FnExactBreaksOfUptoSaid : Prop := fnExactBreaksOfUptoRow.holds Try.pinned (OpenSpec.upto fnExactBreaksOfSpec)

/-- 'laws.FnExactValidBreaks', WHERE WHAT IT READS IS OF BULK AT MOST 1048576: true; the input reads as it did. -/
def fnExactValidBreaksUptoRow : OpenClaim := { program := "ytmnbmjiemjankaa", sum := "bbbc89989ab7e827c6910ff235a38f4928100833ebbb62d3ae63bf2a4135f9ac", func := "loop.example/typesetting/laws.FnExactValidBreaks", spec := "fnExactValidBreaks", unfollowed := true, recurses := true, apart := false, narrowed := true }
def FnExactValidBreaksUptoSaid : Prop := fnExactValidBreaksUptoRow.holds Try.pinned (OpenSpec.upto fnExactValidBreaksSpec)

/-- 'laws.FnExactLineGlue', WHERE WHAT IT READS IS OF BULK AT MOST 1048576: true; the input reads as it did. -/
def fnExactLineGlueUptoRow : OpenClaim := { program := "ytmnbmjiemjankaa", sum := "bbbc89989ab7e827c6910ff235a38f4928100833ebbb62d3ae63bf2a4135f9ac", func := "loop.example/typesetting/laws.FnExactLineGlue", spec := "fnExactLineGlue", unfollowed := true, recurses := true, apart := false, narrowed := true }
def FnExactLineGlueUptoSaid : Prop := fnExactLineGlueUptoRow.holds Try.pinned (OpenSpec.upto fnExactLineGlueSpec)

/-- 'laws.FnLineLonger', WHERE WHAT IT READS IS OF BULK AT MOST 1048576: true; the input reads as it did. -/
def fnLineLongerUptoRow : OpenClaim := { program := "ytmnbmjiemjankaa", sum := "bbbc89989ab7e827c6910ff235a38f4928100833ebbb62d3ae63bf2a4135f9ac", func := "loop.example/typesetting/laws.FnLineLonger", spec := "fnLineLonger", unfollowed := true, recurses := true, apart := false, narrowed := true }
def FnLineLongerUptoSaid : Prop := fnLineLongerUptoRow.holds Try.pinned (OpenSpec.upto fnLineLongerSpec)

/-- 'laws.FnExactFitLine', WHERE WHAT IT READS IS OF BULK AT MOST 1048576: true; the input reads as it did. -/
def fnExactFitLineUptoRow : OpenClaim := { program := "ytmnbmjiemjankaa", sum := "bbbc89989ab7e827c6910ff235a38f4928100833ebbb62d3ae63bf2a4135f9ac", func := "loop.example/typesetting/laws.FnExactFitLine", spec := "fnExactFitLine", unfollowed := true, recurses := true, apart := false, narrowed := true }
def FnExactFitLineUptoSaid : Prop := fnExactFitLineUptoRow.holds Try.pinned (OpenSpec.upto fnExactFitLineSpec)

/-- 'laws.FnFitLine', WHERE WHAT IT READS IS OF BULK AT MOST 1048576: true; the input reads as it did. -/
def fnFitLineUptoRow : OpenClaim := { program := "ytmnbmjiemjankaa", sum := "bbbc89989ab7e827c6910ff235a38f4928100833ebbb62d3ae63bf2a4135f9ac", func := "loop.example/typesetting/laws.FnFitLine", spec := "fnFitLine", unfollowed := true, recurses := true, apart := false, narrowed := true }
def FnFitLineUptoSaid : Prop := fnFitLineUptoRow.holds Try.pinned (OpenSpec.upto fnFitLineSpec)

end Rows
end Go.Proofs.Ytmnbmjiemjankaa
