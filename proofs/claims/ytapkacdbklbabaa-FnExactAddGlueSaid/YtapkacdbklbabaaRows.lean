/-
  No cell of these rows narrows 'for every input' (looked for: loops, veiled, ifaces, maps, wideKeys, modest, calm, conditions, laid).
  DERIVED. THE GIVEN ROWS OF THIS SEAT. 5 by the template 'for every input the law returns true; each argument reads behind the call as it read before'; 0 by the template 'total and deterministic' (their statements: YtapkacdbklbabaaTotals.lean).
  GIVEN WITH THE SEED: the statements are not yours to turn. If you find one false, say at which input.
  Laid BY PROGRAM, IN A SANDBOX (cutbox-rows.mjs): the forced cells as the released guide's own fill.sh prints them over the translation 63d57ad10c67a984… (all of the seat's roots in one cut). By AI agents, Wed Nov 11 2026. No macro, syntax, notation, axiom, sorry.
-/
import Derived.Test.YtapkacdbklbabaaChecked
import GoSem.Claim
import GoSem.ClaimJoined
import GoSem.ClaimMapViews
import Derived.JoinedTies
import Derived.KernelRfl
namespace Go.Proofs.Ytapkacdbklbabaa
/- THE CELL 'sum', in the pinned program and in every row, IS THE sha256 OF THE DUMP (.gsa) THAT YtapkacdbklbabaaProg.lean LOADS. Nothing in Lean hashes anything: it is a label: what it is worth is what the hold of that sum in a sandbox is worth. -/
noncomputable def Try.pinned : Pinned := { name := "ytapkacdbklbabaa", sum := "63d57ad10c67a984ec6745f146d263eb7ba6f21062ed5f90505f917167f21ed6", checked := Try.checked }
namespace Rows
def none {H : Type} : Left H := { results := [], args := [] }

/-- 'laws.FnExactConstants': WHATEVER THE INPUT: true; the input reads as it did. -/
def fnExactConstantsSpec : ChangeSpec := { name := "fnExactConstants", fn := fun _ => fun
  | [] => { results := [.lit (.bool true)], args := [] }
  | _ => none }
def fnExactConstantsRow : OpenClaim := { program := "ytapkacdbklbabaa", sum := "63d57ad10c67a984ec6745f146d263eb7ba6f21062ed5f90505f917167f21ed6", func := "loop.example/typesetting/laws.FnExactConstants", spec := "fnExactConstants", apart := false }
def FnExactConstantsSaid : Prop := fnExactConstantsRow.holds Try.pinned (OpenSpec.ofChange fnExactConstantsSpec)

/-- ITS FALSE NEIGHBOUR: 'it returns false'. Refute it at one input. -/
def fnExactConstantsWrong : ChangeSpec := { name := "fnExactConstants", fn := fun _ => fun
  | [] => { results := [.lit (.bool false)], args := [] }
  | _ => none }
def FnExactConstantsWrongFalsely : Prop := fnExactConstantsRow.holds Try.pinned (OpenSpec.ofChange fnExactConstantsWrong)

/-- 'laws.FnExactValidGlue': WHATEVER THE INPUT: true; the input reads as it did. -/
def fnExactValidGlueSpec : ChangeSpec := { name := "fnExactValidGlue", fn := fun _ => fun
  | [d] => { results := [.lit (.bool true)], args := [d] }
  | _ => none }
def fnExactValidGlueRow : OpenClaim := { program := "ytapkacdbklbabaa", sum := "63d57ad10c67a984ec6745f146d263eb7ba6f21062ed5f90505f917167f21ed6", func := "loop.example/typesetting/laws.FnExactValidGlue", spec := "fnExactValidGlue", apart := false }
def FnExactValidGlueSaid : Prop := fnExactValidGlueRow.holds Try.pinned (OpenSpec.ofChange fnExactValidGlueSpec)

/-- ITS FALSE NEIGHBOUR: 'it returns false'. Refute it at one input. -/
def fnExactValidGlueWrong : ChangeSpec := { name := "fnExactValidGlue", fn := fun _ => fun
  | [d] => { results := [.lit (.bool false)], args := [d] }
  | _ => none }
def FnExactValidGlueWrongFalsely : Prop := fnExactValidGlueRow.holds Try.pinned (OpenSpec.ofChange fnExactValidGlueWrong)

/-- 'laws.FnExactBadness': WHATEVER THE INPUT: true; the input reads as it did. -/
def fnExactBadnessSpec : ChangeSpec := { name := "fnExactBadness", fn := fun _ => fun
  | [d1, d2] => { results := [.lit (.bool true)], args := [d1, d2] }
  | _ => none }
def fnExactBadnessRow : OpenClaim := { program := "ytapkacdbklbabaa", sum := "63d57ad10c67a984ec6745f146d263eb7ba6f21062ed5f90505f917167f21ed6", func := "loop.example/typesetting/laws.FnExactBadness", spec := "fnExactBadness", apart := false }
def FnExactBadnessSaid : Prop := fnExactBadnessRow.holds Try.pinned (OpenSpec.ofChange fnExactBadnessSpec)

/-- ITS FALSE NEIGHBOUR: 'it returns false'. Refute it at one input. -/
def fnExactBadnessWrong : ChangeSpec := { name := "fnExactBadness", fn := fun _ => fun
  | [d1, d2] => { results := [.lit (.bool false)], args := [d1, d2] }
  | _ => none }
def FnExactBadnessWrongFalsely : Prop := fnExactBadnessRow.holds Try.pinned (OpenSpec.ofChange fnExactBadnessWrong)

/-- 'laws.FnExactDemerits': WHATEVER THE INPUT: true; the input reads as it did. -/
def fnExactDemeritsSpec : ChangeSpec := { name := "fnExactDemerits", fn := fun _ => fun
  | [d1, d2, d3] => { results := [.lit (.bool true)], args := [d1, d2, d3] }
  | _ => none }
def fnExactDemeritsRow : OpenClaim := { program := "ytapkacdbklbabaa", sum := "63d57ad10c67a984ec6745f146d263eb7ba6f21062ed5f90505f917167f21ed6", func := "loop.example/typesetting/laws.FnExactDemerits", spec := "fnExactDemerits", apart := false }
def FnExactDemeritsSaid : Prop := fnExactDemeritsRow.holds Try.pinned (OpenSpec.ofChange fnExactDemeritsSpec)

/-- ITS FALSE NEIGHBOUR: 'it returns false'. Refute it at one input. -/
def fnExactDemeritsWrong : ChangeSpec := { name := "fnExactDemerits", fn := fun _ => fun
  | [d1, d2, d3] => { results := [.lit (.bool false)], args := [d1, d2, d3] }
  | _ => none }
def FnExactDemeritsWrongFalsely : Prop := fnExactDemeritsRow.holds Try.pinned (OpenSpec.ofChange fnExactDemeritsWrong)

/-- 'laws.FnExactAddGlue': WHATEVER THE INPUT: true; the input reads as it did. -/
def fnExactAddGlueSpec : ChangeSpec := { name := "fnExactAddGlue", fn := fun _ => fun
  | [d1, d2] => { results := [.lit (.bool true)], args := [d1, d2] }
  | _ => none }
def fnExactAddGlueRow : OpenClaim := { program := "ytapkacdbklbabaa", sum := "63d57ad10c67a984ec6745f146d263eb7ba6f21062ed5f90505f917167f21ed6", func := "loop.example/typesetting/laws.FnExactAddGlue", spec := "fnExactAddGlue", apart := false }
def FnExactAddGlueSaid : Prop := fnExactAddGlueRow.holds Try.pinned (OpenSpec.ofChange fnExactAddGlueSpec)

/-- ITS FALSE NEIGHBOUR: 'it returns false'. Refute it at one input. -/
def fnExactAddGlueWrong : ChangeSpec := { name := "fnExactAddGlue", fn := fun _ => fun
  | [d1, d2] => { results := [.lit (.bool false)], args := [d1, d2] }
  | _ => none }
def FnExactAddGlueWrongFalsely : Prop := fnExactAddGlueRow.holds Try.pinned (OpenSpec.ofChange fnExactAddGlueWrong)

/- THE SECOND FORM. 'bulk': how many values and letters a reading holds, each counted each time it is reached (what is shared counts as often as it is met; a slice's spare places count too). A statement '..UptoSaid' is the law's where the arguments, and the package variables that the reading takes, are together of bulk at most 1048576: NARROWER than '..Said'. Prove '..Said' where nothing that the law and all that it calls make is longer than what came in: it says more and counts as full. Else prove '..UptoSaid'. A law counts once. -/
mutual
def uptoBulk {H : Type} : DataW H → Nat
  | .lit (.string bytes) => bytes.length + 1
  | .lit _ => 1
  | .nil => 1
  | .ptr d => uptoBulk d + 1
  | .slice elems spare => uptoBulkAll elems + uptoBulkAll spare + 1
  | .agg parts => uptoBulkAll parts + 1
  | .iface _ d => uptoBulk d + 1
  | .map entries => uptoBulkEntries entries + 1
  | .held _ => 1
def uptoBulkAll {H : Type} : List (DataW H) → Nat
  | [] => 0
  | d :: r => uptoBulk d + uptoBulkAll r
def uptoBulkEntries {H : Type} : List (Lit × DataW H) → Nat
  | [] => 0
  | x :: r => uptoBulkEntry x + uptoBulkEntries r
def uptoBulkEntry {H : Type} : Lit × DataW H → Nat
  | (.string bytes, d) => bytes.length + uptoBulk d + 1
  | (_, d) => uptoBulk d + 1
 end
def uptoSmall : (H : Type) → List (DataW H) → Bool := fun _ ds => decide (uptoBulkAll ds ≤ 1048576)
def OpenSpec.upto (s : _root_.Go.ChangeSpec) : _root_.Go.OpenSpec := { _root_.Go.OpenSpec.ofChange s with cond := some uptoSmall }

/-- 'laws.FnExactConstants', WHERE WHAT IT READS IS OF BULK AT MOST 1048576: true; the input reads as it did. -/
def fnExactConstantsUptoRow : OpenClaim := { program := "ytapkacdbklbabaa", sum := "63d57ad10c67a984ec6745f146d263eb7ba6f21062ed5f90505f917167f21ed6", func := "loop.example/typesetting/laws.FnExactConstants", spec := "fnExactConstants", apart := false, narrowed := true }
def FnExactConstantsUptoSaid : Prop := fnExactConstantsUptoRow.holds Try.pinned (OpenSpec.upto fnExactConstantsSpec)

/-- 'laws.FnExactValidGlue', WHERE WHAT IT READS IS OF BULK AT MOST 1048576: true; the input reads as it did. -/
def fnExactValidGlueUptoRow : OpenClaim := { program := "ytapkacdbklbabaa", sum := "63d57ad10c67a984ec6745f146d263eb7ba6f21062ed5f90505f917167f21ed6", func := "loop.example/typesetting/laws.FnExactValidGlue", spec := "fnExactValidGlue", apart := false, narrowed := true }
def FnExactValidGlueUptoSaid : Prop := fnExactValidGlueUptoRow.holds Try.pinned (OpenSpec.upto fnExactValidGlueSpec)

/-- 'laws.FnExactBadness', WHERE WHAT IT READS IS OF BULK AT MOST 1048576: true; the input reads as it did. -/
def fnExactBadnessUptoRow : OpenClaim := { program := "ytapkacdbklbabaa", sum := "63d57ad10c67a984ec6745f146d263eb7ba6f21062ed5f90505f917167f21ed6", func := "loop.example/typesetting/laws.FnExactBadness", spec := "fnExactBadness", apart := false, narrowed := true }
def FnExactBadnessUptoSaid : Prop := fnExactBadnessUptoRow.holds Try.pinned (OpenSpec.upto fnExactBadnessSpec)

/-- 'laws.FnExactDemerits', WHERE WHAT IT READS IS OF BULK AT MOST 1048576: true; the input reads as it did. -/
def fnExactDemeritsUptoRow : OpenClaim := { program := "ytapkacdbklbabaa", sum := "63d57ad10c67a984ec6745f146d263eb7ba6f21062ed5f90505f917167f21ed6", func := "loop.example/typesetting/laws.FnExactDemerits", spec := "fnExactDemerits", apart := false, narrowed := true }
def FnExactDemeritsUptoSaid : Prop := fnExactDemeritsUptoRow.holds Try.pinned (OpenSpec.upto fnExactDemeritsSpec)

/-- 'laws.FnExactAddGlue', WHERE WHAT IT READS IS OF BULK AT MOST 1048576: true; the input reads as it did. -/
def fnExactAddGlueUptoRow : OpenClaim := { program := "ytapkacdbklbabaa", sum := "63d57ad10c67a984ec6745f146d263eb7ba6f21062ed5f90505f917167f21ed6", func := "loop.example/typesetting/laws.FnExactAddGlue", spec := "fnExactAddGlue", apart := false, narrowed := true }
def FnExactAddGlueUptoSaid : Prop := fnExactAddGlueUptoRow.holds Try.pinned (OpenSpec.upto fnExactAddGlueSpec)

end Rows
end Go.Proofs.Ytapkacdbklbabaa
