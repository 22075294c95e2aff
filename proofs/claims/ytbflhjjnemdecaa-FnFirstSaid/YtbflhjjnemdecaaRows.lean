/-
  NARROWER THAN 'FOR EVERY INPUT', by the rows' own cells (each row's printed sentence says how): FnExactMatches: loops.
  DERIVED. THE GIVEN ROWS OF THIS SEAT. 7 by the template 'for every input the law returns true; each argument reads behind the call as it read before'; 0 by the template 'total and deterministic' (their statements: YtbflhjjnemdecaaTotals.lean).
  GIVEN WITH THE SEED: the statements are not yours to turn. If you find one false, say at which input.
  Laid BY PROGRAM, IN A SANDBOX (cutbox-rows.mjs): the forced cells as the released guide's own fill.sh prints them over the translation a43e26c38d90e9e6… (all of the seat's roots in one cut). By AI agents, Wed Nov 11 2026. No macro, syntax, notation, axiom, sorry.
-/
import Derived.Test.YtbflhjjnemdecaaChecked
import GoSem.Claim
import GoSem.ClaimJoined
import GoSem.ClaimMapViews
import Derived.JoinedTies
import Derived.KernelRfl
namespace Go.Proofs.Ytbflhjjnemdecaa
/- THE CELL 'sum', in the pinned program and in every row, IS THE sha256 OF THE DUMP (.gsa) THAT YtbflhjjnemdecaaProg.lean LOADS. Nothing in Lean hashes anything: it is a label: what it is worth is what the hold of that sum in a sandbox is worth. -/
noncomputable def Try.pinned : Pinned := { name := "ytbflhjjnemdecaa", sum := "a43e26c38d90e9e61adb3f7b2d35dc6c4317cc41355faf1de9e7e97247064ee6", checked := Try.checked }
namespace Rows
def none {H : Type} : Left H := { results := [], args := [] }

/-- 'laws.FnExactMatches': WHATEVER THE INPUT: true; the input reads as it did. -/
def fnExactMatchesSpec : ChangeSpec := { name := "fnExactMatches", fn := fun _ => fun
  | [d1, d2, d3] => { results := [.lit (.bool true)], args := [d1, d2, d3] }
  | _ => none }
def fnExactMatchesRow : OpenClaim := { program := "ytbflhjjnemdecaa", sum := "a43e26c38d90e9e61adb3f7b2d35dc6c4317cc41355faf1de9e7e97247064ee6", func := "loop.example/g01101/laws.FnExactMatches", spec := "fnExactMatches", recurses := true, loops := true, plainKeys := false, apart := false }
def FnExactMatchesSaid : Prop := fnExactMatchesRow.holds Try.pinned (OpenSpec.ofChange fnExactMatchesSpec)

/-- ITS FALSE NEIGHBOUR: 'it returns false'. Refute it at one input. -/
def fnExactMatchesWrong : ChangeSpec := { name := "fnExactMatches", fn := fun _ => fun
  | [d1, d2, d3] => { results := [.lit (.bool false)], args := [d1, d2, d3] }
  | _ => none }
def FnExactMatchesWrongFalsely : Prop := fnExactMatchesRow.holds Try.pinned (OpenSpec.ofChange fnExactMatchesWrong)

/-- 'laws.FnExactMixAutomata': WHATEVER THE INPUT: true; the input reads as it did. -/
def fnExactMixAutomataSpec : ChangeSpec := { name := "fnExactMixAutomata", fn := fun _ => fun
  | [d1, d2, d3] => { results := [.lit (.bool true)], args := [d1, d2, d3] }
  | _ => none }
def fnExactMixAutomataRow : OpenClaim := { program := "ytbflhjjnemdecaa", sum := "a43e26c38d90e9e61adb3f7b2d35dc6c4317cc41355faf1de9e7e97247064ee6", func := "loop.example/g01101/laws.FnExactMixAutomata", spec := "fnExactMixAutomata", plainKeys := false, apart := false }
def FnExactMixAutomataSaid : Prop := fnExactMixAutomataRow.holds Try.pinned (OpenSpec.ofChange fnExactMixAutomataSpec)

/-- ITS FALSE NEIGHBOUR: 'it returns false'. Refute it at one input. -/
def fnExactMixAutomataWrong : ChangeSpec := { name := "fnExactMixAutomata", fn := fun _ => fun
  | [d1, d2, d3] => { results := [.lit (.bool false)], args := [d1, d2, d3] }
  | _ => none }
def FnExactMixAutomataWrongFalsely : Prop := fnExactMixAutomataRow.holds Try.pinned (OpenSpec.ofChange fnExactMixAutomataWrong)

/-- 'laws.FnExactFirstAccepted': WHATEVER THE INPUT: true; the input reads as it did. -/
def fnExactFirstAcceptedSpec : ChangeSpec := { name := "fnExactFirstAccepted", fn := fun _ => fun
  | [d] => { results := [.lit (.bool true)], args := [d] }
  | _ => none }
def fnExactFirstAcceptedRow : OpenClaim := { program := "ytbflhjjnemdecaa", sum := "a43e26c38d90e9e61adb3f7b2d35dc6c4317cc41355faf1de9e7e97247064ee6", func := "loop.example/g01101/laws.FnExactFirstAccepted", spec := "fnExactFirstAccepted", unfollowed := true, recurses := true, plainKeys := false, apart := false }
def FnExactFirstAcceptedSaid : Prop := fnExactFirstAcceptedRow.holds Try.pinned (OpenSpec.ofChange fnExactFirstAcceptedSpec)

/-- ITS FALSE NEIGHBOUR: 'it returns false'. Refute it at one input. -/
def fnExactFirstAcceptedWrong : ChangeSpec := { name := "fnExactFirstAccepted", fn := fun _ => fun
  | [d] => { results := [.lit (.bool false)], args := [d] }
  | _ => none }
def FnExactFirstAcceptedWrongFalsely : Prop := fnExactFirstAcceptedRow.holds Try.pinned (OpenSpec.ofChange fnExactFirstAcceptedWrong)

/-- 'laws.FnMix': WHATEVER THE INPUT: true; the input reads as it did. -/
def fnMixSpec : ChangeSpec := { name := "fnMix", fn := fun _ => fun
  | [d1, d2] => { results := [.lit (.bool true)], args := [d1, d2] }
  | _ => none }
def fnMixRow : OpenClaim := { program := "ytbflhjjnemdecaa", sum := "a43e26c38d90e9e61adb3f7b2d35dc6c4317cc41355faf1de9e7e97247064ee6", func := "loop.example/g01101/laws.FnMix", spec := "fnMix", recurses := true, plainKeys := false, apart := false }
def FnMixSaid : Prop := fnMixRow.holds Try.pinned (OpenSpec.ofChange fnMixSpec)

/-- ITS FALSE NEIGHBOUR: 'it returns false'. Refute it at one input. -/
def fnMixWrong : ChangeSpec := { name := "fnMix", fn := fun _ => fun
  | [d1, d2] => { results := [.lit (.bool false)], args := [d1, d2] }
  | _ => none }
def FnMixWrongFalsely : Prop := fnMixRow.holds Try.pinned (OpenSpec.ofChange fnMixWrong)

/-- 'laws.FnFuse': WHATEVER THE INPUT: true; the input reads as it did. -/
def fnFuseSpec : ChangeSpec := { name := "fnFuse", fn := fun _ => fun
  | [d1, d2] => { results := [.lit (.bool true)], args := [d1, d2] }
  | _ => none }
def fnFuseRow : OpenClaim := { program := "ytbflhjjnemdecaa", sum := "a43e26c38d90e9e61adb3f7b2d35dc6c4317cc41355faf1de9e7e97247064ee6", func := "loop.example/g01101/laws.FnFuse", spec := "fnFuse", recurses := true, plainKeys := false, apart := false }
def FnFuseSaid : Prop := fnFuseRow.holds Try.pinned (OpenSpec.ofChange fnFuseSpec)

/-- ITS FALSE NEIGHBOUR: 'it returns false'. Refute it at one input. -/
def fnFuseWrong : ChangeSpec := { name := "fnFuse", fn := fun _ => fun
  | [d1, d2] => { results := [.lit (.bool false)], args := [d1, d2] }
  | _ => none }
def FnFuseWrongFalsely : Prop := fnFuseRow.holds Try.pinned (OpenSpec.ofChange fnFuseWrong)

/-- 'laws.FnReverse': WHATEVER THE INPUT: true; the input reads as it did. -/
def fnReverseSpec : ChangeSpec := { name := "fnReverse", fn := fun _ => fun
  | [d1, d2] => { results := [.lit (.bool true)], args := [d1, d2] }
  | _ => none }
def fnReverseRow : OpenClaim := { program := "ytbflhjjnemdecaa", sum := "a43e26c38d90e9e61adb3f7b2d35dc6c4317cc41355faf1de9e7e97247064ee6", func := "loop.example/g01101/laws.FnReverse", spec := "fnReverse", recurses := true, plainKeys := false, apart := false }
def FnReverseSaid : Prop := fnReverseRow.holds Try.pinned (OpenSpec.ofChange fnReverseSpec)

/-- ITS FALSE NEIGHBOUR: 'it returns false'. Refute it at one input. -/
def fnReverseWrong : ChangeSpec := { name := "fnReverse", fn := fun _ => fun
  | [d1, d2] => { results := [.lit (.bool false)], args := [d1, d2] }
  | _ => none }
def FnReverseWrongFalsely : Prop := fnReverseRow.holds Try.pinned (OpenSpec.ofChange fnReverseWrong)

/-- 'laws.FnFirst': WHATEVER THE INPUT: true; the input reads as it did. -/
def fnFirstSpec : ChangeSpec := { name := "fnFirst", fn := fun _ => fun
  | [d1, d2] => { results := [.lit (.bool true)], args := [d1, d2] }
  | _ => none }
def fnFirstRow : OpenClaim := { program := "ytbflhjjnemdecaa", sum := "a43e26c38d90e9e61adb3f7b2d35dc6c4317cc41355faf1de9e7e97247064ee6", func := "loop.example/g01101/laws.FnFirst", spec := "fnFirst", unfollowed := true, recurses := true, plainKeys := false, apart := false }
def FnFirstSaid : Prop := fnFirstRow.holds Try.pinned (OpenSpec.ofChange fnFirstSpec)

/-- ITS FALSE NEIGHBOUR: 'it returns false'. Refute it at one input. -/
def fnFirstWrong : ChangeSpec := { name := "fnFirst", fn := fun _ => fun
  | [d1, d2] => { results := [.lit (.bool false)], args := [d1, d2] }
  | _ => none }
def FnFirstWrongFalsely : Prop := fnFirstRow.holds Try.pinned (OpenSpec.ofChange fnFirstWrong)

/- THE SECOND FORM. 'bulk': how many values and letters a reading holds, each counted each time it is reached (what is shared counts as often as it is met; a slice's spare places count too). A statement '..UptoSaid' is the law's where the arguments, and the package variables that the reading takes, are together of bulk at most 1048576: NARROWER than '..Said'. Prove '..Said' where nothing that the law and all that it calls make is longer than what came in: it says more and counts as full. Else prove '..UptoSaid'. A law counts once. -/
mutual
def uptoBulk {H : Type} : DataW H → Nat
  | .lit (.string bytes) => bytes.length + 1
  | .lit _ => 1
  | .nil => 1
  | .ptr d => uptoBulk d + 1
  | .slice elems spare => uptoBulkAll elems + uptoBulkAll spare + 1
  | .agg parts => uptoBulkAll parts + 1
  | .iface _ d => uptoBulk d + 1
  | .map entries => uptoBulkEntries entries + 1
  | .held _ => 1
def uptoBulkAll {H : Type} : List (DataW H) → Nat
  | [] => 0
  | d :: r => uptoBulk d + uptoBulkAll r
def uptoBulkEntries {H : Type} : List (Lit × DataW H) → Nat
  | [] => 0
  | x :: r => uptoBulkEntry x + uptoBulkEntries r
def uptoBulkEntry {H : Type} : Lit × DataW H → Nat
  | (.string bytes, d) => bytes.length + uptoBulk d + 1
  | (_, d) => uptoBulk d + 1
 end
def uptoSmall : (H : Type) → List (DataW H) → Bool := fun _ ds => decide (uptoBulkAll ds ≤ 1048576)
def OpenSpec.upto (s : _root_.Go.ChangeSpec) : _root_.Go.OpenSpec := { _root_.Go.OpenSpec.ofChange s with cond := some uptoSmall }

/-- 'laws.FnExactMatches', WHERE WHAT IT READS IS OF BULK AT MOST 1048576: true; the input reads as it did. -/
def fnExactMatchesUptoRow : OpenClaim := { program := "ytbflhjjnemdecaa", sum := "a43e26c38d90e9e61adb3f7b2d35dc6c4317cc41355faf1de9e7e97247064ee6", func := "loop.example/g01101/laws.FnExactMatches", spec := "fnExactMatches", recurses := true, loops := true, plainKeys := false, apart := false, narrowed := true }
def FnExactMatchesUptoSaid : Prop := fnExactMatchesUptoRow.holds Try.pinned (OpenSpec.upto fnExactMatchesSpec)

/-- 'laws.FnExactMixAutomata', WHERE WHAT IT READS IS OF BULK AT MOST 1048576: true; the input reads as it did. -/
def fnExactMixAutomataUptoRow : OpenClaim := { program := "ytbflhjjnemdecaa", sum := "a43e26c38d90e9e61adb3f7b2d35dc6c4317cc41355faf1de9e7e97247064ee6", func := "loop.example/g01101/laws.FnExactMixAutomata", spec := "fnExactMixAutomata", plainKeys := false, apart := false, narrowed := true }
def FnExactMixAutomataUptoSaid : Prop := fnExactMixAutomataUptoRow.holds Try.pinned (OpenSpec.upto fnExactMixAutomataSpec)

/-- 'laws.FnExactFirstAccepted', WHERE WHAT IT READS IS OF BULK AT MOST 1048576: true; the input reads as it did. -/
def fnExactFirstAcceptedUptoRow : OpenClaim := { program := "ytbflhjjnemdecaa", sum := "a43e26c38d90e9e61adb3f7b2d35dc6c4317cc41355faf1de9e7e97247064ee6", func := "loop.example/g01101/laws.FnExactFirstAccepted", spec := "fnExactFirstAccepted", unfollowed := true, recurses := true, plainKeys := false, apart := false, narrowed := true }
def FnExactFirstAcceptedUptoSaid : Prop := fnExactFirstAcceptedUptoRow.holds Try.pinned (OpenSpec.upto fnExactFirstAcceptedSpec)

/-- 'laws.FnMix', WHERE WHAT IT READS IS OF BULK AT MOST 1048576: true; the input reads as it did. -/
def fnMixUptoRow : OpenClaim := { program := "ytbflhjjnemdecaa", sum := "a43e26c38d90e9e61adb3f7b2d35dc6c4317cc41355faf1de9e7e97247064ee6", func := "loop.example/g01101/laws.FnMix", spec := "fnMix", recurses := true, plainKeys := false, apart := false, narrowed := true }
def FnMixUptoSaid : Prop := fnMixUptoRow.holds Try.pinned (OpenSpec.upto fnMixSpec)

/-- 'laws.FnFuse', WHERE WHAT IT READS IS OF BULK AT MOST 1048576: true; the input reads as it did. -/
def fnFuseUptoRow : OpenClaim := { program := "ytbflhjjnemdecaa", sum := "a43e26c38d90e9e61adb3f7b2d35dc6c4317cc41355faf1de9e7e97247064ee6", func := "loop.example/g01101/laws.FnFuse", spec := "fnFuse", recurses := true, plainKeys := false, apart := false, narrowed := true }
def FnFuseUptoSaid : Prop := fnFuseUptoRow.holds Try.pinned (OpenSpec.upto fnFuseSpec)

/-- 'laws.FnReverse', WHERE WHAT IT READS IS OF BULK AT MOST 1048576: true; the input reads as it did. -/
def fnReverseUptoRow : OpenClaim := { program := "ytbflhjjnemdecaa", sum := "a43e26c38d90e9e61adb3f7b2d35dc6c4317cc41355faf1de9e7e97247064ee6", func := "loop.example/g01101/laws.FnReverse", spec := "fnReverse", recurses := true, plainKeys := false, apart := false, narrowed := true }
def FnReverseUptoSaid : Prop := fnReverseUptoRow.holds Try.pinned (OpenSpec.upto fnReverseSpec)

/-- 'laws.FnFirst', WHERE WHAT IT READS IS OF BULK AT MOST 1048576: true; the input reads as it did. -/
def fnFirstUptoRow : OpenClaim := { program := "ytbflhjjnemdecaa", sum := "a43e26c38d90e9e61adb3f7b2d35dc6c4317cc41355faf1de9e7e97247064ee6", func := "loop.example/g01101/laws.FnFirst", spec := "fnFirst", unfollowed := true, recurses := true, plainKeys := false, apart := false, narrowed := true }
def FnFirstUptoSaid : Prop := fnFirstUptoRow.holds Try.pinned (OpenSpec.upto fnFirstSpec)

end Rows
end Go.Proofs.Ytbflhjjnemdecaa
