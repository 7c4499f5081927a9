/-
  No cell of these rows narrows 'for every input' (looked for: loops, veiled, ifaces, maps, wideKeys, modest, calm, conditions, laid).
  DERIVED. THE GIVEN ROWS OF THIS SEAT. 8 by the template 'for every input the law returns true; each argument reads behind the call as it read before'; 0 by the template 'total and deterministic' (their statements: YtpekagagjjhjeaaTotals.lean).
  GIVEN WITH THE SEED: the statements are not yours to turn. If you find one false, say at which input.
  Laid BY PROGRAM, IN A SANDBOX (cutbox-rows.mjs): the forced cells as the released guide's own fill.sh prints them over the translation 972dcec58e9be427… (all of the seat's roots in one cut). By AI agents, Wed Nov 11 2026. No macro, syntax, notation, axiom, sorry.
-/
import Derived.Test.YtpekagagjjhjeaaChecked
import GoSem.Claim
import GoSem.ClaimJoined
import GoSem.ClaimMapViews
import Derived.JoinedTies
import Derived.KernelRfl
namespace Go.Proofs.Ytpekagagjjhjeaa
/- THE CELL 'sum', in the pinned program and in every row, IS THE sha256 OF THE DUMP (.gsa) THAT YtpekagagjjhjeaaProg.lean LOADS. Nothing in Lean hashes anything: it is a label: what it is worth is what the hold of that sum in a sandbox is worth. -/
noncomputable def Try.pinned : Pinned := { name := "ytpekagagjjhjeaa", sum := "972dcec58e9be427270cf069190b9eee1d15e2a4e4a5c019c95de56eff8fe8a2", checked := Try.checked }
namespace Rows
def none {H : Type} : Left H := { results := [], args := [] }

/-- 'laws.FnExactLineCost': WHATEVER THE INPUT: true; the input reads as it did. -/
def fnExactLineCostSpec : ChangeSpec := { name := "fnExactLineCost", fn := fun _ => fun
  | [d1, d2, d3, d4, d5] => { results := [.lit (.bool true)], args := [d1, d2, d3, d4, d5] }
  | _ => none }
def fnExactLineCostRow : OpenClaim := { program := "ytpekagagjjhjeaa", sum := "972dcec58e9be427270cf069190b9eee1d15e2a4e4a5c019c95de56eff8fe8a2", func := "loop.example/typesetting/laws.FnExactLineCost", spec := "fnExactLineCost", unfollowed := true, recurses := true, apart := false }
def FnExactLineCostSaid : Prop := fnExactLineCostRow.holds Try.pinned (OpenSpec.ofChange fnExactLineCostSpec)

/-- ITS FALSE NEIGHBOUR: 'it returns false'. Refute it at one input. -/
def fnExactLineCostWrong : ChangeSpec := { name := "fnExactLineCost", fn := fun _ => fun
  | [d1, d2, d3, d4, d5] => { results := [.lit (.bool false)], args := [d1, d2, d3, d4, d5] }
  | _ => none }
def FnExactLineCostWrongFalsely : Prop := fnExactLineCostRow.holds Try.pinned (OpenSpec.ofChange fnExactLineCostWrong)

/-- 'laws.FnExactFirstFit': WHATEVER THE INPUT: true; the input reads as it did. -/
def fnExactFirstFitSpec : ChangeSpec := { name := "fnExactFirstFit", fn := fun _ => fun
  | [d1, d2] => { results := [.lit (.bool true)], args := [d1, d2] }
  | _ => none }
def fnExactFirstFitRow : OpenClaim := { program := "ytpekagagjjhjeaa", sum := "972dcec58e9be427270cf069190b9eee1d15e2a4e4a5c019c95de56eff8fe8a2", func := "loop.example/typesetting/laws.FnExactFirstFit", spec := "fnExactFirstFit", apart := false }
def FnExactFirstFitSaid : Prop := fnExactFirstFitRow.holds Try.pinned (OpenSpec.ofChange fnExactFirstFitSpec)

/-- ITS FALSE NEIGHBOUR: 'it returns false'. Refute it at one input. -/
def fnExactFirstFitWrong : ChangeSpec := { name := "fnExactFirstFit", fn := fun _ => fun
  | [d1, d2] => { results := [.lit (.bool false)], args := [d1, d2] }
  | _ => none }
def FnExactFirstFitWrongFalsely : Prop := fnExactFirstFitRow.holds Try.pinned (OpenSpec.ofChange fnExactFirstFitWrong)

/-- 'laws.FnFirstFit': WHATEVER THE INPUT: true; the input reads as it did. -/
def fnFirstFitSpec : ChangeSpec := { name := "fnFirstFit", fn := fun _ => fun
  | [d] => { results := [.lit (.bool true)], args := [d] }
  | _ => none }
def fnFirstFitRow : OpenClaim := { program := "ytpekagagjjhjeaa", sum := "972dcec58e9be427270cf069190b9eee1d15e2a4e4a5c019c95de56eff8fe8a2", func := "loop.example/typesetting/laws.FnFirstFit", spec := "fnFirstFit", unfollowed := true, recurses := true, apart := false }
def FnFirstFitSaid : Prop := fnFirstFitRow.holds Try.pinned (OpenSpec.ofChange fnFirstFitSpec)

/-- ITS FALSE NEIGHBOUR: 'it returns false'. Refute it at one input. -/
def fnFirstFitWrong : ChangeSpec := { name := "fnFirstFit", fn := fun _ => fun
  | [d] => { results := [.lit (.bool false)], args := [d] }
  | _ => none }
def FnFirstFitWrongFalsely : Prop := fnFirstFitRow.holds Try.pinned (OpenSpec.ofChange fnFirstFitWrong)

/-- 'laws.FnLineCost': WHATEVER THE INPUT: true; the input reads as it did. -/
def fnLineCostSpec : ChangeSpec := { name := "fnLineCost", fn := fun _ => fun
  | [d] => { results := [.lit (.bool true)], args := [d] }
  | _ => none }
def fnLineCostRow : OpenClaim := { program := "ytpekagagjjhjeaa", sum := "972dcec58e9be427270cf069190b9eee1d15e2a4e4a5c019c95de56eff8fe8a2", func := "loop.example/typesetting/laws.FnLineCost", spec := "fnLineCost", unfollowed := true, recurses := true, apart := false }
def FnLineCostSaid : Prop := fnLineCostRow.holds Try.pinned (OpenSpec.ofChange fnLineCostSpec)

/-- ITS FALSE NEIGHBOUR: 'it returns false'. Refute it at one input. -/
def fnLineCostWrong : ChangeSpec := { name := "fnLineCost", fn := fun _ => fun
  | [d] => { results := [.lit (.bool false)], args := [d] }
  | _ => none }
def FnLineCostWrongFalsely : Prop := fnLineCostRow.holds Try.pinned (OpenSpec.ofChange fnLineCostWrong)

/-- 'laws.FnExactOverfullLines': WHATEVER THE INPUT: true; the input reads as it did. -/
def fnExactOverfullLinesSpec : ChangeSpec := { name := "fnExactOverfullLines", fn := fun _ => fun
  | [d1, d2, d3] => { results := [.lit (.bool true)], args := [d1, d2, d3] }
  | _ => none }
def fnExactOverfullLinesRow : OpenClaim := { program := "ytpekagagjjhjeaa", sum := "972dcec58e9be427270cf069190b9eee1d15e2a4e4a5c019c95de56eff8fe8a2", func := "loop.example/typesetting/laws.FnExactOverfullLines", spec := "fnExactOverfullLines", unfollowed := true, recurses := true, apart := false }
def FnExactOverfullLinesSaid : Prop := fnExactOverfullLinesRow.holds Try.pinned (OpenSpec.ofChange fnExactOverfullLinesSpec)

/-- ITS FALSE NEIGHBOUR: 'it returns false'. Refute it at one input. -/
def fnExactOverfullLinesWrong : ChangeSpec := { name := "fnExactOverfullLines", fn := fun _ => fun
  | [d1, d2, d3] => { results := [.lit (.bool false)], args := [d1, d2, d3] }
  | _ => none }
def FnExactOverfullLinesWrongFalsely : Prop := fnExactOverfullLinesRow.holds Try.pinned (OpenSpec.ofChange fnExactOverfullLinesWrong)

/-- 'laws.FnValidBreaks': WHATEVER THE INPUT: true; the input reads as it did. -/
def fnValidBreaksSpec : ChangeSpec := { name := "fnValidBreaks", fn := fun _ => fun
  | [d] => { results := [.lit (.bool true)], args := [d] }
  | _ => none }
def fnValidBreaksRow : OpenClaim := { program := "ytpekagagjjhjeaa", sum := "972dcec58e9be427270cf069190b9eee1d15e2a4e4a5c019c95de56eff8fe8a2", func := "loop.example/typesetting/laws.FnValidBreaks", spec := "fnValidBreaks", unfollowed := true, recurses := true, apart := false }
def FnValidBreaksSaid : Prop := fnValidBreaksRow.holds Try.pinned (OpenSpec.ofChange fnValidBreaksSpec)

/-- ITS FALSE NEIGHBOUR: 'it returns false'. Refute it at one input. -/
def fnValidBreaksWrong : ChangeSpec := { name := "fnValidBreaks", fn := fun _ => fun
  | [d] => { results := [.lit (.bool false)], args := [d] }
  | _ => none }
def FnValidBreaksWrongFalsely : Prop := fnValidBreaksRow.holds Try.pinned (OpenSpec.ofChange fnValidBreaksWrong)

/-- 'laws.FnOverfullLines': WHATEVER THE INPUT: true; the input reads as it did. -/
def fnOverfullLinesSpec : ChangeSpec := { name := "fnOverfullLines", fn := fun _ => fun
  | [d] => { results := [.lit (.bool true)], args := [d] }
  | _ => none }
def fnOverfullLinesRow : OpenClaim := { program := "ytpekagagjjhjeaa", sum := "972dcec58e9be427270cf069190b9eee1d15e2a4e4a5c019c95de56eff8fe8a2", func := "loop.example/typesetting/laws.FnOverfullLines", spec := "fnOverfullLines", unfollowed := true, recurses := true, apart := false }
def FnOverfullLinesSaid : Prop := fnOverfullLinesRow.holds Try.pinned (OpenSpec.ofChange fnOverfullLinesSpec)

/-- ITS FALSE NEIGHBOUR: 'it returns false'. Refute it at one input. -/
def fnOverfullLinesWrong : ChangeSpec := { name := "fnOverfullLines", fn := fun _ => fun
  | [d] => { results := [.lit (.bool false)], args := [d] }
  | _ => none }
def FnOverfullLinesWrongFalsely : Prop := fnOverfullLinesRow.holds Try.pinned (OpenSpec.ofChange fnOverfullLinesWrong)

/-- 'laws.FnFirstFitLines': WHATEVER THE INPUT: true; the input reads as it did. -/
def fnFirstFitLinesSpec : ChangeSpec := { name := "fnFirstFitLines", fn := fun _ => fun
  | [d] => { results := [.lit (.bool true)], args := [d] }
  | _ => none }
def fnFirstFitLinesRow : OpenClaim := { program := "ytpekagagjjhjeaa", sum := "972dcec58e9be427270cf069190b9eee1d15e2a4e4a5c019c95de56eff8fe8a2", func := "loop.example/typesetting/laws.FnFirstFitLines", spec := "fnFirstFitLines", unfollowed := true, recurses := true, apart := false }
def FnFirstFitLinesSaid : Prop := fnFirstFitLinesRow.holds Try.pinned (OpenSpec.ofChange fnFirstFitLinesSpec)

/-- ITS FALSE NEIGHBOUR: 'it returns false'. Refute it at one input. -/
def fnFirstFitLinesWrong : ChangeSpec := { name := "fnFirstFitLines", fn := fun _ => fun
  | [d] => { results := [.lit (.bool false)], args := [d] }
  | _ => none }
def FnFirstFitLinesWrongFalsely : Prop := fnFirstFitLinesRow.holds Try.pinned (OpenSpec.ofChange fnFirstFitLinesWrong)

/- THE SECOND FORM. 'bulk': how many values and letters a reading holds, each counted each time it is reached (what is shared counts as often as it is met; a slice's spare places count too). A statement '..UptoSaid' is the law's where the arguments, and the package variables that the reading takes, are together of bulk at most 1048576: NARROWER than '..Said'. Prove '..Said' where nothing that the law and all that it calls make is longer than what came in: it says more and counts as full. Else prove '..UptoSaid'. A law counts once. -/
mutual
def uptoBulk {H : Type} : DataW H → Nat
  | .lit (.string bytes) => bytes.length + 1
  | .lit _ => 1
  | .nil => 1
  | .ptr d => uptoBulk d + 1
  | .slice elems spare => uptoBulkAll elems + uptoBulkAll spare + 1
  | .agg parts => uptoBulkAll parts + 1
  | .iface _ d => uptoBulk d + 1
  | .map entries => uptoBulkEntries entries + 1
  | .held _ => 1
def uptoBulkAll {H : Type} : List (DataW H) → Nat
  | [] => 0
  | d :: r => uptoBulk d + uptoBulkAll r
def uptoBulkEntries {H : Type} : List (Lit × DataW H) → Nat
  | [] => 0
  | x :: r => uptoBulkEntry x + uptoBulkEntries r
def uptoBulkEntry {H : Type} : Lit × DataW H → Nat
  | (.string bytes, d) => bytes.length + uptoBulk d + 1
  | (_, d) => uptoBulk d + 1
 end
def uptoSmall : (H : Type) → List (DataW H) → Bool := fun _ ds => decide (uptoBulkAll ds ≤ 1048576)
def OpenSpec.upto (s : _root_.Go.ChangeSpec) : _root_.Go.OpenSpec := { _root_.Go.OpenSpec.ofChange s with cond := some uptoSmall }

/-- 'laws.FnExactLineCost', WHERE WHAT IT READS IS OF BULK AT MOST 1048576: true; the input reads as it did. -/
def fnExactLineCostUptoRow : OpenClaim := { program := "ytpekagagjjhjeaa", sum := "972dcec58e9be427270cf069190b9eee1d15e2a4e4a5c019c95de56eff8fe8a2", func := "loop.example/typesetting/laws.FnExactLineCost", spec := "fnExactLineCost", unfollowed := true, recurses := true, apart := false, narrowed := true }
def FnExactLineCostUptoSaid : Prop := fnExactLineCostUptoRow.holds Try.pinned (OpenSpec.upto fnExactLineCostSpec)

/-- 'laws.FnExactFirstFit', WHERE WHAT IT READS IS OF BULK AT MOST 1048576: true; the input reads as it did. -/
def fnExactFirstFitUptoRow : OpenClaim := { program := "ytpekagagjjhjeaa", sum := "972dcec58e9be427270cf069190b9eee1d15e2a4e4a5c019c95de56eff8fe8a2", func := "loop.example/typesetting/laws.FnExactFirstFit", spec := "fnExactFirstFit", apart := false, narrowed := true }
def FnExactFirstFitUptoSaid : Prop := fnExactFirstFitUptoRow.holds Try.pinned (OpenSpec.upto fnExactFirstFitSpec)

/-- 'laws.FnFirstFit', WHERE WHAT IT READS IS OF BULK AT MOST 1048576: true; the input reads as it did. -/
def fnFirstFitUptoRow : OpenClaim := { program := "ytpekagagjjhjeaa", sum := "972dcec58e9be427270cf069190b9eee1d15e2a4e4a5c019c95de56eff8fe8a2", func := "loop.example/typesetting/laws.FnFirstFit", spec := "fnFirstFit", unfollowed := true, recurses := true, apart := false, narrowed := true }
def FnFirstFitUptoSaid : Prop := fnFirstFitUptoRow.holds Try.pinned (OpenSpec.upto fnFirstFitSpec)

/-- 'laws.FnLineCost', WHERE WHAT IT READS IS OF BULK AT MOST 1048576: true; the input reads as it did. -/
def fnLineCostUptoRow : OpenClaim := { program := "ytpekagagjjhjeaa", sum := "972dcec58e9be427270cf069190b9eee1d15e2a4e4a5c019c95de56eff8fe8a2", func := "loop.example/typesetting/laws.FnLineCost", spec := "fnLineCost", unfollowed := true, recurses := true, apart := false, narrowed := true }
def FnLineCostUptoSaid : Prop := fnLineCostUptoRow.holds Try.pinned (OpenSpec.upto fnLineCostSpec)

/-- 'laws.FnExactOverfullLines', WHERE WHAT IT READS IS OF BULK AT MOST 1048576: true; the input reads as it did. -/
def fnExactOverfullLinesUptoRow : OpenClaim := { program := "ytpekagagjjhjeaa", sum := "972dcec58e9be427270cf069190b9eee1d15e2a4e4a5c019c95de56eff8fe8a2", func := "loop.example/typesetting/laws.FnExactOverfullLines", spec := "fnExactOverfullLines", unfollowed := true, recurses := true, apart := false, narrowed := true }
def FnExactOverfullLinesUptoSaid : Prop := fnExactOverfullLinesUptoRow.holds Try.pinned (OpenSpec.upto fnExactOverfullLinesSpec)

/-- 'laws.FnValidBreaks', WHERE WHAT IT READS IS OF BULK AT MOST 1048576: true; the input reads as it did. -/
def fnValidBreaksUptoRow : OpenClaim := { program := "ytpekagagjjhjeaa", sum := "972dcec58e9be427270cf069190b9eee1d15e2a4e4a5c019c95de56eff8fe8a2", func := "loop.example/typesetting/laws.FnValidBreaks", spec := "fnValidBreaks", unfollowed := true, recurses := true, apart := false, narrowed := true }
def FnValidBreaksUptoSaid : Prop := fnValidBreaksUptoRow.holds Try.pinned (OpenSpec.upto fnValidBreaksSpec)

/-- 'laws.FnOverfullLines', WHERE WHAT IT READS IS OF BULK AT MOST 1048576: true; the input reads as it did. -/
def fnOverfullLinesUptoRow : OpenClaim := { program := "ytpekagagjjhjeaa", sum := "972dcec58e9be427270cf069190b9eee1d15e2a4e4a5c019c95de56eff8fe8a2", func := "loop.example/typesetting/laws.FnOverfullLines", spec := "fnOverfullLines", unfollowed := true, recurses := true, apart := false, narrowed := true }
def FnOverfullLinesUptoSaid : Prop := fnOverfullLinesUptoRow.holds Try.pinned (OpenSpec.upto fnOverfullLinesSpec)

/-- 'laws.FnFirstFitLines', WHERE WHAT IT READS IS OF BULK AT MOST 1048576: true; the input reads as it did. -/
def fnFirstFitLinesUptoRow : OpenClaim := { program := "ytpekagagjjhjeaa", sum := "972dcec58e9be427270cf069190b9eee1d15e2a4e4a5c019c95de56eff8fe8a2", func := "loop.example/typesetting/laws.FnFirstFitLines", spec := "fnFirstFitLines", unfollowed := true, recurses := true, apart := false, narrowed := true }
def FnFirstFitLinesUptoSaid : Prop := fnFirstFitLinesUptoRow.holds Try.pinned (OpenSpec.upto fnFirstFitLinesSpec)

end Rows
end Go.Proofs.Ytpekagagjjhjeaa
