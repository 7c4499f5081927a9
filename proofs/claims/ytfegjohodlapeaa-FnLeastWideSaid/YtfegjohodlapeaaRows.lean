/-
  No cell of these rows narrows 'for every input' (looked for: loops, veiled, ifaces, maps, wideKeys, modest, calm, conditions, laid).
  DERIVED. THE GIVEN ROWS OF THIS SEAT. 10 by the template 'for every input the law returns true; each argument reads behind the call as it read before'; 0 by the template 'total and deterministic' (their statements: YtfegjohodlapeaaTotals.lean).
  GIVEN WITH THE SEED: the statements are not yours to turn. If you find one false, say at which input.
  Laid BY PROGRAM, IN A SANDBOX (cutbox-rows.mjs): the forced cells as the released guide's own fill.sh prints them over the translation 1f5b38b051b52d3d… (all of the seat's roots in one cut). By AI agents, Wed Nov 11 2026. No macro, syntax, notation, axiom, sorry.
-/
import Derived.Test.YtfegjohodlapeaaChecked
import GoSem.Claim
import GoSem.ClaimJoined
import GoSem.ClaimMapViews
import Derived.JoinedTies
import Derived.KernelRfl
namespace Go.Proofs.Ytfegjohodlapeaa
/- THE CELL 'sum', in the pinned program and in every row, IS THE sha256 OF THE DUMP (.gsa) THAT YtfegjohodlapeaaProg.lean LOADS. Nothing in Lean hashes anything: it is a label: what it is worth is what the hold of that sum in a sandbox is worth. -/
noncomputable def Try.pinned : Pinned := { name := "ytfegjohodlapeaa", sum := "1f5b38b051b52d3d3f330daa4cf5568e32f2560ab2258fc5e583f83d512ca866", checked := Try.checked }
namespace Rows
def none {H : Type} : Left H := { results := [], args := [] }

/-- 'laws.FnExactCheckBreaks': WHATEVER THE INPUT: true; the input reads as it did. -/
def fnExactCheckBreaksSpec : ChangeSpec := { name := "fnExactCheckBreaks", fn := fun _ => fun
  | [d1, d2, d3, d4] => { results := [.lit (.bool true)], args := [d1, d2, d3, d4] }
  | _ => none }
def fnExactCheckBreaksRow : OpenClaim := { program := "ytfegjohodlapeaa", sum := "1f5b38b051b52d3d3f330daa4cf5568e32f2560ab2258fc5e583f83d512ca866", func := "loop.example/typesetting/laws.FnExactCheckBreaks", spec := "fnExactCheckBreaks", unfollowed := true, recurses := true, apart := false }
def FnExactCheckBreaksSaid : Prop := fnExactCheckBreaksRow.holds Try.pinned (OpenSpec.ofChange fnExactCheckBreaksSpec)

/-- ITS FALSE NEIGHBOUR: 'it returns false'. Refute it at one input. -/
def fnExactCheckBreaksWrong : ChangeSpec := { name := "fnExactCheckBreaks", fn := fun _ => fun
  | [d1, d2, d3, d4] => { results := [.lit (.bool false)], args := [d1, d2, d3, d4] }
  | _ => none }
def FnExactCheckBreaksWrongFalsely : Prop := fnExactCheckBreaksRow.holds Try.pinned (OpenSpec.ofChange fnExactCheckBreaksWrong)

/-- 'laws.FnExactLeastLines': WHATEVER THE INPUT: true; the input reads as it did. -/
def fnExactLeastLinesSpec : ChangeSpec := { name := "fnExactLeastLines", fn := fun _ => fun
  | [d1, d2, d3] => { results := [.lit (.bool true)], args := [d1, d2, d3] }
  | _ => none }
def fnExactLeastLinesRow : OpenClaim := { program := "ytfegjohodlapeaa", sum := "1f5b38b051b52d3d3f330daa4cf5568e32f2560ab2258fc5e583f83d512ca866", func := "loop.example/typesetting/laws.FnExactLeastLines", spec := "fnExactLeastLines", unfollowed := true, recurses := true, apart := false }
def FnExactLeastLinesSaid : Prop := fnExactLeastLinesRow.holds Try.pinned (OpenSpec.ofChange fnExactLeastLinesSpec)

/-- ITS FALSE NEIGHBOUR: 'it returns false'. Refute it at one input. -/
def fnExactLeastLinesWrong : ChangeSpec := { name := "fnExactLeastLines", fn := fun _ => fun
  | [d1, d2, d3] => { results := [.lit (.bool false)], args := [d1, d2, d3] }
  | _ => none }
def FnExactLeastLinesWrongFalsely : Prop := fnExactLeastLinesRow.holds Try.pinned (OpenSpec.ofChange fnExactLeastLinesWrong)

/-- 'laws.FnLeastForced': WHATEVER THE INPUT: true; the input reads as it did. -/
def fnLeastForcedSpec : ChangeSpec := { name := "fnLeastForced", fn := fun _ => fun
  | [d] => { results := [.lit (.bool true)], args := [d] }
  | _ => none }
def fnLeastForcedRow : OpenClaim := { program := "ytfegjohodlapeaa", sum := "1f5b38b051b52d3d3f330daa4cf5568e32f2560ab2258fc5e583f83d512ca866", func := "loop.example/typesetting/laws.FnLeastForced", spec := "fnLeastForced", unfollowed := true, recurses := true, apart := false }
def FnLeastForcedSaid : Prop := fnLeastForcedRow.holds Try.pinned (OpenSpec.ofChange fnLeastForcedSpec)

/-- ITS FALSE NEIGHBOUR: 'it returns false'. Refute it at one input. -/
def fnLeastForcedWrong : ChangeSpec := { name := "fnLeastForced", fn := fun _ => fun
  | [d] => { results := [.lit (.bool false)], args := [d] }
  | _ => none }
def FnLeastForcedWrongFalsely : Prop := fnLeastForcedRow.holds Try.pinned (OpenSpec.ofChange fnLeastForcedWrong)

/-- 'laws.FnLeastWide': WHATEVER THE INPUT: true; the input reads as it did. -/
def fnLeastWideSpec : ChangeSpec := { name := "fnLeastWide", fn := fun _ => fun
  | [d] => { results := [.lit (.bool true)], args := [d] }
  | _ => none }
def fnLeastWideRow : OpenClaim := { program := "ytfegjohodlapeaa", sum := "1f5b38b051b52d3d3f330daa4cf5568e32f2560ab2258fc5e583f83d512ca866", func := "loop.example/typesetting/laws.FnLeastWide", spec := "fnLeastWide", unfollowed := true, recurses := true, apart := false }
def FnLeastWideSaid : Prop := fnLeastWideRow.holds Try.pinned (OpenSpec.ofChange fnLeastWideSpec)

/-- ITS FALSE NEIGHBOUR: 'it returns false'. Refute it at one input. -/
def fnLeastWideWrong : ChangeSpec := { name := "fnLeastWide", fn := fun _ => fun
  | [d] => { results := [.lit (.bool false)], args := [d] }
  | _ => none }
def FnLeastWideWrongFalsely : Prop := fnLeastWideRow.holds Try.pinned (OpenSpec.ofChange fnLeastWideWrong)

/-- 'laws.FnBestTolerance': WHATEVER THE INPUT: true; the input reads as it did. -/
def fnBestToleranceSpec : ChangeSpec := { name := "fnBestTolerance", fn := fun _ => fun
  | [d] => { results := [.lit (.bool true)], args := [d] }
  | _ => none }
def fnBestToleranceRow : OpenClaim := { program := "ytfegjohodlapeaa", sum := "1f5b38b051b52d3d3f330daa4cf5568e32f2560ab2258fc5e583f83d512ca866", func := "loop.example/typesetting/laws.FnBestTolerance", spec := "fnBestTolerance", unfollowed := true, recurses := true, apart := false }
def FnBestToleranceSaid : Prop := fnBestToleranceRow.holds Try.pinned (OpenSpec.ofChange fnBestToleranceSpec)

/-- ITS FALSE NEIGHBOUR: 'it returns false'. Refute it at one input. -/
def fnBestToleranceWrong : ChangeSpec := { name := "fnBestTolerance", fn := fun _ => fun
  | [d] => { results := [.lit (.bool false)], args := [d] }
  | _ => none }
def FnBestToleranceWrongFalsely : Prop := fnBestToleranceRow.holds Try.pinned (OpenSpec.ofChange fnBestToleranceWrong)

/-- 'laws.FnBestForced': WHATEVER THE INPUT: true; the input reads as it did. -/
def fnBestForcedSpec : ChangeSpec := { name := "fnBestForced", fn := fun _ => fun
  | [d] => { results := [.lit (.bool true)], args := [d] }
  | _ => none }
def fnBestForcedRow : OpenClaim := { program := "ytfegjohodlapeaa", sum := "1f5b38b051b52d3d3f330daa4cf5568e32f2560ab2258fc5e583f83d512ca866", func := "loop.example/typesetting/laws.FnBestForced", spec := "fnBestForced", unfollowed := true, recurses := true, apart := false }
def FnBestForcedSaid : Prop := fnBestForcedRow.holds Try.pinned (OpenSpec.ofChange fnBestForcedSpec)

/-- ITS FALSE NEIGHBOUR: 'it returns false'. Refute it at one input. -/
def fnBestForcedWrong : ChangeSpec := { name := "fnBestForced", fn := fun _ => fun
  | [d] => { results := [.lit (.bool false)], args := [d] }
  | _ => none }
def FnBestForcedWrongFalsely : Prop := fnBestForcedRow.holds Try.pinned (OpenSpec.ofChange fnBestForcedWrong)

/-- 'laws.FnExactBestBreaks': WHATEVER THE INPUT: true; the input reads as it did. -/
def fnExactBestBreaksSpec : ChangeSpec := { name := "fnExactBestBreaks", fn := fun _ => fun
  | [d1, d2, d3] => { results := [.lit (.bool true)], args := [d1, d2, d3] }
  | _ => none }
def fnExactBestBreaksRow : OpenClaim := { program := "ytfegjohodlapeaa", sum := "1f5b38b051b52d3d3f330daa4cf5568e32f2560ab2258fc5e583f83d512ca866", func := "loop.example/typesetting/laws.FnExactBestBreaks", spec := "fnExactBestBreaks", unfollowed := true, recurses := true, apart := false }
def FnExactBestBreaksSaid : Prop := fnExactBestBreaksRow.holds Try.pinned (OpenSpec.ofChange fnExactBestBreaksSpec)

/-- ITS FALSE NEIGHBOUR: 'it returns false'. Refute it at one input. -/
def fnExactBestBreaksWrong : ChangeSpec := { name := "fnExactBestBreaks", fn := fun _ => fun
  | [d1, d2, d3] => { results := [.lit (.bool false)], args := [d1, d2, d3] }
  | _ => none }
def FnExactBestBreaksWrongFalsely : Prop := fnExactBestBreaksRow.holds Try.pinned (OpenSpec.ofChange fnExactBestBreaksWrong)

/-- 'laws.FnCheckBreaks': WHATEVER THE INPUT: true; the input reads as it did. -/
def fnCheckBreaksSpec : ChangeSpec := { name := "fnCheckBreaks", fn := fun _ => fun
  | [d] => { results := [.lit (.bool true)], args := [d] }
  | _ => none }
def fnCheckBreaksRow : OpenClaim := { program := "ytfegjohodlapeaa", sum := "1f5b38b051b52d3d3f330daa4cf5568e32f2560ab2258fc5e583f83d512ca866", func := "loop.example/typesetting/laws.FnCheckBreaks", spec := "fnCheckBreaks", unfollowed := true, recurses := true, apart := false }
def FnCheckBreaksSaid : Prop := fnCheckBreaksRow.holds Try.pinned (OpenSpec.ofChange fnCheckBreaksSpec)

/-- ITS FALSE NEIGHBOUR: 'it returns false'. Refute it at one input. -/
def fnCheckBreaksWrong : ChangeSpec := { name := "fnCheckBreaks", fn := fun _ => fun
  | [d] => { results := [.lit (.bool false)], args := [d] }
  | _ => none }
def FnCheckBreaksWrongFalsely : Prop := fnCheckBreaksRow.holds Try.pinned (OpenSpec.ofChange fnCheckBreaksWrong)

/-- 'laws.FnBestBreaks': WHATEVER THE INPUT: true; the input reads as it did. -/
def fnBestBreaksSpec : ChangeSpec := { name := "fnBestBreaks", fn := fun _ => fun
  | [d] => { results := [.lit (.bool true)], args := [d] }
  | _ => none }
def fnBestBreaksRow : OpenClaim := { program := "ytfegjohodlapeaa", sum := "1f5b38b051b52d3d3f330daa4cf5568e32f2560ab2258fc5e583f83d512ca866", func := "loop.example/typesetting/laws.FnBestBreaks", spec := "fnBestBreaks", unfollowed := true, recurses := true, apart := false }
def FnBestBreaksSaid : Prop := fnBestBreaksRow.holds Try.pinned (OpenSpec.ofChange fnBestBreaksSpec)

/-- ITS FALSE NEIGHBOUR: 'it returns false'. Refute it at one input. -/
def fnBestBreaksWrong : ChangeSpec := { name := "fnBestBreaks", fn := fun _ => fun
  | [d] => { results := [.lit (.bool false)], args := [d] }
  | _ => none }
def FnBestBreaksWrongFalsely : Prop := fnBestBreaksRow.holds Try.pinned (OpenSpec.ofChange fnBestBreaksWrong)

/-- 'laws.FnBestOfAll': WHATEVER THE INPUT: true; the input reads as it did. -/
def fnBestOfAllSpec : ChangeSpec := { name := "fnBestOfAll", fn := fun _ => fun
  | [d] => { results := [.lit (.bool true)], args := [d] }
  | _ => none }
def fnBestOfAllRow : OpenClaim := { program := "ytfegjohodlapeaa", sum := "1f5b38b051b52d3d3f330daa4cf5568e32f2560ab2258fc5e583f83d512ca866", func := "loop.example/typesetting/laws.FnBestOfAll", spec := "fnBestOfAll", unfollowed := true, recurses := true, apart := false }
def FnBestOfAllSaid : Prop := fnBestOfAllRow.holds Try.pinned (OpenSpec.ofChange fnBestOfAllSpec)

/-- ITS FALSE NEIGHBOUR: 'it returns false'. Refute it at one input. -/
def fnBestOfAllWrong : ChangeSpec := { name := "fnBestOfAll", fn := fun _ => fun
  | [d] => { results := [.lit (.bool false)], args := [d] }
  | _ => none }
def FnBestOfAllWrongFalsely : Prop := fnBestOfAllRow.holds Try.pinned (OpenSpec.ofChange fnBestOfAllWrong)

/- THE SECOND FORM. 'bulk': how many values and letters a reading holds, each counted each time it is reached (what is shared counts as often as it is met; a slice's spare places count too). A statement '..UptoSaid' is the law's where the arguments, and the package variables that the reading takes, are together of bulk at most 1048576: NARROWER than '..Said'. Prove '..Said' where nothing that the law and all that it calls make is longer than what came in: it says more and counts as full. Else prove '..UptoSaid'. A law counts once. -/
mutual
def uptoBulk {H : Type} : DataW H → Nat
  | .lit (.string bytes) => bytes.length + 1
  | .lit _ => 1
  | .nil => 1
  | .ptr d => uptoBulk d + 1
  | .slice elems spare => uptoBulkAll elems + uptoBulkAll spare + 1
  | .agg parts => uptoBulkAll parts + 1
  | .iface _ d => uptoBulk d + 1
  | .map entries => uptoBulkEntries entries + 1
  | .held _ => 1
def uptoBulkAll {H : Type} : List (DataW H) → Nat
  | [] => 0
  | d :: r => uptoBulk d + uptoBulkAll r
def uptoBulkEntries {H : Type} : List (Lit × DataW H) → Nat
  | [] => 0
  | x :: r => uptoBulkEntry x + uptoBulkEntries r
def uptoBulkEntry {H : Type} : Lit × DataW H → Nat
  | (.string bytes, d) => bytes.length + uptoBulk d + 1
  | (_, d) => uptoBulk d + 1
 end
def uptoSmall : (H : Type) → List (DataW H) → Bool := fun _ ds => decide (uptoBulkAll ds ≤ 1048576)
def OpenSpec.upto (s : _root_.Go.ChangeSpec) : _root_.Go.OpenSpec := { _root_.Go.OpenSpec.ofChange s with cond := some uptoSmall }

/-- 'laws.FnExactCheckBreaks', WHERE WHAT IT READS IS OF BULK AT MOST 1048576: true; the input reads as it did. -/
def fnExactCheckBreaksUptoRow : OpenClaim := { program := "ytfegjohodlapeaa", sum := "1f5b38b051b52d3d3f330daa4cf5568e32f2560ab2258fc5e583f83d512ca866", func := "loop.example/typesetting/laws.FnExactCheckBreaks", spec := "fnExactCheckBreaks", unfollowed := true, recurses := true, apart := false, narrowed := true }
def FnExactCheckBreaksUptoSaid : Prop := fnExactCheckBreaksUptoRow.holds Try.pinned (OpenSpec.upto fnExactCheckBreaksSpec)

/-- 'laws.FnExactLeastLines', WHERE WHAT IT READS IS OF BULK AT MOST 1048576: true; the input reads as it did. -/
def fnExactLeastLinesUptoRow : OpenClaim := { program := "ytfegjohodlapeaa", sum := "1f5b38b051b52d3d3f330daa4cf5568e32f2560ab2258fc5e583f83d512ca866", func := "loop.example/typesetting/laws.FnExactLeastLines", spec := "fnExactLeastLines", unfollowed := true, recurses := true, apart := false, narrowed := true }
def FnExactLeastLinesUptoSaid : Prop := fnExactLeastLinesUptoRow.holds Try.pinned (OpenSpec.upto fnExactLeastLinesSpec)

/-- 'laws.FnLeastForced', WHERE WHAT IT READS IS OF BULK AT MOST 1048576: true; the input reads as it did. -/
def fnLeastForcedUptoRow : OpenClaim := { program := "ytfegjohodlapeaa", sum := "1f5b38b051b52d3d3f330daa4cf5568e32f2560ab2258fc5e583f83d512ca866", func := "loop.example/typesetting/laws.FnLeastForced", spec := "fnLeastForced", unfollowed := true, recurses := true, apart := false, narrowed := true }
def FnLeastForcedUptoSaid : Prop := fnLeastForcedUptoRow.holds Try.pinned (OpenSpec.upto fnLeastForcedSpec)

/-- 'laws.FnLeastWide', WHERE WHAT IT READS IS OF BULK AT MOST 1048576: true; the input reads as it did. -/
def fnLeastWideUptoRow : OpenClaim := { program := "ytfegjohodlapeaa", sum := "1f5b38b051b52d3d3f330daa4cf5568e32f2560ab2258fc5e583f83d512ca866", func := "loop.example/typesetting/laws.FnLeastWide", spec := "fnLeastWide", unfollowed := true, recurses := true, apart := false, narrowed := true }
def FnLeastWideUptoSaid : Prop := fnLeastWideUptoRow.holds Try.pinned (OpenSpec.upto fnLeastWideSpec)

/-- 'laws.FnBestTolerance', WHERE WHAT IT READS IS OF BULK AT MOST 1048576: true; the input reads as it did. -/
def fnBestToleranceUptoRow : OpenClaim := { program := "ytfegjohodlapeaa", sum := "1f5b38b051b52d3d3f330daa4cf5568e32f2560ab2258fc5e583f83d512ca866", func := "loop.example/typesetting/laws.FnBestTolerance", spec := "fnBestTolerance", unfollowed := true, recurses := true, apart := false, narrowed := true }
def FnBestToleranceUptoSaid : Prop := fnBestToleranceUptoRow.holds Try.pinned (OpenSpec.upto fnBestToleranceSpec)

/-- 'laws.FnBestForced', WHERE WHAT IT READS IS OF BULK AT MOST 1048576: true; the input reads as it did. -/
def fnBestForcedUptoRow : OpenClaim := { program := "ytfegjohodlapeaa", sum := "1f5b38b051b52d3d3f330daa4cf5568e32f2560ab2258fc5e583f83d512ca866", func := "loop.example/typesetting/laws.FnBestForced", spec := "fnBestForced", unfollowed := true, recurses := true, apart := false, narrowed := true }
def FnBestForcedUptoSaid : Prop := fnBestForcedUptoRow.holds Try.pinned (OpenSpec.upto fnBestForcedSpec)

/-- 'laws.FnExactBestBreaks', WHERE WHAT IT READS IS OF BULK AT MOST 1048576: true; the input reads as it did. -/
def fnExactBestBreaksUptoRow : OpenClaim := { program := "ytfegjohodlapeaa", sum := "1f5b38b051b52d3d3f330daa4cf5568e32f2560ab2258fc5e583f83d512ca866", func := "loop.example/typesetting/laws.FnExactBestBreaks", spec := "fnExactBestBreaks", unfollowed := true, recurses := true, apart := false, narrowed := true }
def FnExactBestBreaksUptoSaid : Prop := fnExactBestBreaksUptoRow.holds Try.pinned (OpenSpec.upto fnExactBestBreaksSpec)

/-- 'laws.FnCheckBreaks', WHERE WHAT IT READS IS OF BULK AT MOST 1048576: true; the input reads as it did. -/
def fnCheckBreaksUptoRow : OpenClaim := { program := "ytfegjohodlapeaa", sum := "1f5b38b051b52d3d3f330daa4cf5568e32f2560ab2258fc5e583f83d512ca866", func := "loop.example/typesetting/laws.FnCheckBreaks", spec := "fnCheckBreaks", unfollowed := true, recurses := true, apart := false, narrowed := true }
def FnCheckBreaksUptoSaid : Prop := fnCheckBreaksUptoRow.holds Try.pinned (OpenSpec.upto fnCheckBreaksSpec)

/-- 'laws.FnBestBreaks', WHERE WHAT IT READS IS OF BULK AT MOST 1048576: true; the input reads as it did. -/
def fnBestBreaksUptoRow : OpenClaim := { program := "ytfegjohodlapeaa", sum := "1f5b38b051b52d3d3f330daa4cf5568e32f2560ab2258fc5e583f83d512ca866", func := "loop.example/typesetting/laws.FnBestBreaks", spec := "fnBestBreaks", unfollowed := true, recurses := true, apart := false, narrowed := true }
def FnBestBreaksUptoSaid : Prop := fnBestBreaksUptoRow.holds Try.pinned (OpenSpec.upto fnBestBreaksSpec)

/-- 'laws.FnBestOfAll', WHERE WHAT IT READS IS OF BULK AT MOST 1048576: true; the input reads as it did. -/
def fnBestOfAllUptoRow : OpenClaim := { program := "ytfegjohodlapeaa", sum := "1f5b38b051b52d3d3f330daa4cf5568e32f2560ab2258fc5e583f83d512ca866", func := "loop.example/typesetting/laws.FnBestOfAll", spec := "fnBestOfAll", unfollowed := true, recurses := true, apart := false, narrowed := true }
def FnBestOfAllUptoSaid : Prop := fnBestOfAllUptoRow.holds Try.pinned (OpenSpec.upto fnBestOfAllSpec)

end Rows
end Go.Proofs.Ytfegjohodlapeaa
