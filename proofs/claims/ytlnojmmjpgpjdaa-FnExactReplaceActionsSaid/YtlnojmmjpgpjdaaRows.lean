/-
  NARROWER THAN 'FOR EVERY INPUT', by the rows' own cells (each row's printed sentence says how): FnExactReplaceActions: loops · FnExactMatches: loops.
  DERIVED. THE GIVEN ROWS OF THIS SEAT. 8 by the template 'for every input the law returns true; each argument reads behind the call as it read before'; 0 by the template 'total and deterministic' (their statements: YtlnojmmjpgpjdaaTotals.lean).
  GIVEN WITH THE SEED: the statements are not yours to turn. If you find one false, say at which input.
  Laid BY PROGRAM, IN A SANDBOX (cutbox-rows.mjs): the forced cells as the released guide's own fill.sh prints them over the translation 25d49e0bc6f58f12… (all of the seat's roots in one cut). By AI agents, Wed Nov 11 2026. No macro, syntax, notation, axiom, sorry.
-/
import Derived.Test.YtlnojmmjpgpjdaaChecked
import GoSem.Claim
import GoSem.ClaimJoined
import GoSem.ClaimMapViews
import Derived.JoinedTies
import Derived.KernelRfl
namespace Go.Proofs.Ytlnojmmjpgpjdaa
/- THE CELL 'sum', in the pinned program and in every row, IS THE sha256 OF THE DUMP (.gsa) THAT YtlnojmmjpgpjdaaProg.lean LOADS. Nothing in Lean hashes anything: it is a label: what it is worth is what the hold of that sum in a sandbox is worth. -/
noncomputable def Try.pinned : Pinned := { name := "ytlnojmmjpgpjdaa", sum := "25d49e0bc6f58f12e5bfed5b6f6d441ea22bebb7c144c54e6fc258a243c09c9c", checked := Try.checked }
namespace Rows
def none {H : Type} : Left H := { results := [], args := [] }

/-- 'laws.FnExactValidAutomaton': WHATEVER THE INPUT: true; the input reads as it did. -/
def fnExactValidAutomatonSpec : ChangeSpec := { name := "fnExactValidAutomaton", fn := fun _ => fun
  | [d] => { results := [.lit (.bool true)], args := [d] }
  | _ => none }
def fnExactValidAutomatonRow : OpenClaim := { program := "ytlnojmmjpgpjdaa", sum := "25d49e0bc6f58f12e5bfed5b6f6d441ea22bebb7c144c54e6fc258a243c09c9c", func := "loop.example/g01101/laws.FnExactValidAutomaton", spec := "fnExactValidAutomaton", plainKeys := false, apart := false }
def FnExactValidAutomatonSaid : Prop := fnExactValidAutomatonRow.holds Try.pinned (OpenSpec.ofChange fnExactValidAutomatonSpec)

/-- ITS FALSE NEIGHBOUR: 'it returns false'. Refute it at one input. -/
def fnExactValidAutomatonWrong : ChangeSpec := { name := "fnExactValidAutomaton", fn := fun _ => fun
  | [d] => { results := [.lit (.bool false)], args := [d] }
  | _ => none }
def FnExactValidAutomatonWrongFalsely : Prop := fnExactValidAutomatonRow.holds Try.pinned (OpenSpec.ofChange fnExactValidAutomatonWrong)

/-- 'laws.FnExactSameAutomaton': WHATEVER THE INPUT: true; the input reads as it did. -/
def fnExactSameAutomatonSpec : ChangeSpec := { name := "fnExactSameAutomaton", fn := fun _ => fun
  | [d1, d2] => { results := [.lit (.bool true)], args := [d1, d2] }
  | _ => none }
def fnExactSameAutomatonRow : OpenClaim := { program := "ytlnojmmjpgpjdaa", sum := "25d49e0bc6f58f12e5bfed5b6f6d441ea22bebb7c144c54e6fc258a243c09c9c", func := "loop.example/g01101/laws.FnExactSameAutomaton", spec := "fnExactSameAutomaton", unfollowed := true, recurses := true, plainKeys := false, apart := false }
def FnExactSameAutomatonSaid : Prop := fnExactSameAutomatonRow.holds Try.pinned (OpenSpec.ofChange fnExactSameAutomatonSpec)

/-- ITS FALSE NEIGHBOUR: 'it returns false'. Refute it at one input. -/
def fnExactSameAutomatonWrong : ChangeSpec := { name := "fnExactSameAutomaton", fn := fun _ => fun
  | [d1, d2] => { results := [.lit (.bool false)], args := [d1, d2] }
  | _ => none }
def FnExactSameAutomatonWrongFalsely : Prop := fnExactSameAutomatonRow.holds Try.pinned (OpenSpec.ofChange fnExactSameAutomatonWrong)

/-- 'laws.FnExactAcceptedCount': WHATEVER THE INPUT: true; the input reads as it did. -/
def fnExactAcceptedCountSpec : ChangeSpec := { name := "fnExactAcceptedCount", fn := fun _ => fun
  | [d1, d2] => { results := [.lit (.bool true)], args := [d1, d2] }
  | _ => none }
def fnExactAcceptedCountRow : OpenClaim := { program := "ytlnojmmjpgpjdaa", sum := "25d49e0bc6f58f12e5bfed5b6f6d441ea22bebb7c144c54e6fc258a243c09c9c", func := "loop.example/g01101/laws.FnExactAcceptedCount", spec := "fnExactAcceptedCount", plainKeys := false, apart := false }
def FnExactAcceptedCountSaid : Prop := fnExactAcceptedCountRow.holds Try.pinned (OpenSpec.ofChange fnExactAcceptedCountSpec)

/-- ITS FALSE NEIGHBOUR: 'it returns false'. Refute it at one input. -/
def fnExactAcceptedCountWrong : ChangeSpec := { name := "fnExactAcceptedCount", fn := fun _ => fun
  | [d1, d2] => { results := [.lit (.bool false)], args := [d1, d2] }
  | _ => none }
def FnExactAcceptedCountWrongFalsely : Prop := fnExactAcceptedCountRow.holds Try.pinned (OpenSpec.ofChange fnExactAcceptedCountWrong)

/-- 'laws.FnExactReplaceActions': WHATEVER THE INPUT: true; the input reads as it did. -/
def fnExactReplaceActionsSpec : ChangeSpec := { name := "fnExactReplaceActions", fn := fun _ => fun
  | [d1, d2, d3] => { results := [.lit (.bool true)], args := [d1, d2, d3] }
  | _ => none }
def fnExactReplaceActionsRow : OpenClaim := { program := "ytlnojmmjpgpjdaa", sum := "25d49e0bc6f58f12e5bfed5b6f6d441ea22bebb7c144c54e6fc258a243c09c9c", func := "loop.example/g01101/laws.FnExactReplaceActions", spec := "fnExactReplaceActions", recurses := true, loops := true, plainKeys := false, apart := false }
def FnExactReplaceActionsSaid : Prop := fnExactReplaceActionsRow.holds Try.pinned (OpenSpec.ofChange fnExactReplaceActionsSpec)

/-- ITS FALSE NEIGHBOUR: 'it returns false'. Refute it at one input. -/
def fnExactReplaceActionsWrong : ChangeSpec := { name := "fnExactReplaceActions", fn := fun _ => fun
  | [d1, d2, d3] => { results := [.lit (.bool false)], args := [d1, d2, d3] }
  | _ => none }
def FnExactReplaceActionsWrongFalsely : Prop := fnExactReplaceActionsRow.holds Try.pinned (OpenSpec.ofChange fnExactReplaceActionsWrong)

/-- 'laws.FnExactRunAutomaton': WHATEVER THE INPUT: true; the input reads as it did. -/
def fnExactRunAutomatonSpec : ChangeSpec := { name := "fnExactRunAutomaton", fn := fun _ => fun
  | [d1, d2] => { results := [.lit (.bool true)], args := [d1, d2] }
  | _ => none }
def fnExactRunAutomatonRow : OpenClaim := { program := "ytlnojmmjpgpjdaa", sum := "25d49e0bc6f58f12e5bfed5b6f6d441ea22bebb7c144c54e6fc258a243c09c9c", func := "loop.example/g01101/laws.FnExactRunAutomaton", spec := "fnExactRunAutomaton", plainKeys := false, apart := false }
def FnExactRunAutomatonSaid : Prop := fnExactRunAutomatonRow.holds Try.pinned (OpenSpec.ofChange fnExactRunAutomatonSpec)

/-- ITS FALSE NEIGHBOUR: 'it returns false'. Refute it at one input. -/
def fnExactRunAutomatonWrong : ChangeSpec := { name := "fnExactRunAutomaton", fn := fun _ => fun
  | [d1, d2] => { results := [.lit (.bool false)], args := [d1, d2] }
  | _ => none }
def FnExactRunAutomatonWrongFalsely : Prop := fnExactRunAutomatonRow.holds Try.pinned (OpenSpec.ofChange fnExactRunAutomatonWrong)

/-- 'laws.FnExactMatches': WHATEVER THE INPUT: true; the input reads as it did. -/
def fnExactMatchesSpec : ChangeSpec := { name := "fnExactMatches", fn := fun _ => fun
  | [d1, d2, d3] => { results := [.lit (.bool true)], args := [d1, d2, d3] }
  | _ => none }
def fnExactMatchesRow : OpenClaim := { program := "ytlnojmmjpgpjdaa", sum := "25d49e0bc6f58f12e5bfed5b6f6d441ea22bebb7c144c54e6fc258a243c09c9c", func := "loop.example/g01101/laws.FnExactMatches", spec := "fnExactMatches", recurses := true, loops := true, plainKeys := false, apart := false }
def FnExactMatchesSaid : Prop := fnExactMatchesRow.holds Try.pinned (OpenSpec.ofChange fnExactMatchesSpec)

/-- ITS FALSE NEIGHBOUR: 'it returns false'. Refute it at one input. -/
def fnExactMatchesWrong : ChangeSpec := { name := "fnExactMatches", fn := fun _ => fun
  | [d1, d2, d3] => { results := [.lit (.bool false)], args := [d1, d2, d3] }
  | _ => none }
def FnExactMatchesWrongFalsely : Prop := fnExactMatchesRow.holds Try.pinned (OpenSpec.ofChange fnExactMatchesWrong)

/-- 'laws.FnExactMixAutomata': WHATEVER THE INPUT: true; the input reads as it did. -/
def fnExactMixAutomataSpec : ChangeSpec := { name := "fnExactMixAutomata", fn := fun _ => fun
  | [d1, d2, d3] => { results := [.lit (.bool true)], args := [d1, d2, d3] }
  | _ => none }
def fnExactMixAutomataRow : OpenClaim := { program := "ytlnojmmjpgpjdaa", sum := "25d49e0bc6f58f12e5bfed5b6f6d441ea22bebb7c144c54e6fc258a243c09c9c", func := "loop.example/g01101/laws.FnExactMixAutomata", spec := "fnExactMixAutomata", plainKeys := false, apart := false }
def FnExactMixAutomataSaid : Prop := fnExactMixAutomataRow.holds Try.pinned (OpenSpec.ofChange fnExactMixAutomataSpec)

/-- ITS FALSE NEIGHBOUR: 'it returns false'. Refute it at one input. -/
def fnExactMixAutomataWrong : ChangeSpec := { name := "fnExactMixAutomata", fn := fun _ => fun
  | [d1, d2, d3] => { results := [.lit (.bool false)], args := [d1, d2, d3] }
  | _ => none }
def FnExactMixAutomataWrongFalsely : Prop := fnExactMixAutomataRow.holds Try.pinned (OpenSpec.ofChange fnExactMixAutomataWrong)

/-- 'laws.FnExactFirstAccepted': WHATEVER THE INPUT: true; the input reads as it did. -/
def fnExactFirstAcceptedSpec : ChangeSpec := { name := "fnExactFirstAccepted", fn := fun _ => fun
  | [d] => { results := [.lit (.bool true)], args := [d] }
  | _ => none }
def fnExactFirstAcceptedRow : OpenClaim := { program := "ytlnojmmjpgpjdaa", sum := "25d49e0bc6f58f12e5bfed5b6f6d441ea22bebb7c144c54e6fc258a243c09c9c", func := "loop.example/g01101/laws.FnExactFirstAccepted", spec := "fnExactFirstAccepted", unfollowed := true, recurses := true, plainKeys := false, apart := false }
def FnExactFirstAcceptedSaid : Prop := fnExactFirstAcceptedRow.holds Try.pinned (OpenSpec.ofChange fnExactFirstAcceptedSpec)

/-- ITS FALSE NEIGHBOUR: 'it returns false'. Refute it at one input. -/
def fnExactFirstAcceptedWrong : ChangeSpec := { name := "fnExactFirstAccepted", fn := fun _ => fun
  | [d] => { results := [.lit (.bool false)], args := [d] }
  | _ => none }
def FnExactFirstAcceptedWrongFalsely : Prop := fnExactFirstAcceptedRow.holds Try.pinned (OpenSpec.ofChange fnExactFirstAcceptedWrong)

/- THE SECOND FORM. 'bulk': how many values and letters a reading holds, each counted each time it is reached (what is shared counts as often as it is met; a slice's spare places count too). A statement '..UptoSaid' is the law's where the arguments, and the package variables that the reading takes, are together of bulk at most 1048576: NARROWER than '..Said'. Prove '..Said' where nothing that the law and all that it calls make is longer than what came in: it says more and counts as full. Else prove '..UptoSaid'. A law counts once. -/
mutual
def uptoBulk {H : Type} : DataW H → Nat
  | .lit (.string bytes) => bytes.length + 1
  | .lit _ => 1
  | .nil => 1
  | .ptr d => uptoBulk d + 1
  | .slice elems spare => uptoBulkAll elems + uptoBulkAll spare + 1
  | .agg parts => uptoBulkAll parts + 1
  | .iface _ d => uptoBulk d + 1
  | .map entries => uptoBulkEntries entries + 1
  | .held _ => 1
def uptoBulkAll {H : Type} : List (DataW H) → Nat
  | [] => 0
  | d :: r => uptoBulk d + uptoBulkAll r
def uptoBulkEntries {H : Type} : List (Lit × DataW H) → Nat
  | [] => 0
  | x :: r => uptoBulkEntry x + uptoBulkEntries r
def uptoBulkEntry {H : Type} : Lit × DataW H → Nat
  | (.string bytes, d) => bytes.length + uptoBulk d + 1
  | (_, d) => uptoBulk d + 1
 end
def uptoSmall : (H : Type) → List (DataW H) → Bool := fun _ ds => decide (uptoBulkAll ds ≤ 1048576)
def OpenSpec.upto (s : _root_.Go.ChangeSpec) : _root_.Go.OpenSpec := { _root_.Go.OpenSpec.ofChange s with cond := some uptoSmall }

/-- 'laws.FnExactValidAutomaton', WHERE WHAT IT READS IS OF BULK AT MOST 1048576: true; the input reads as it did. -/
def fnExactValidAutomatonUptoRow : OpenClaim := { program := "ytlnojmmjpgpjdaa", sum := "25d49e0bc6f58f12e5bfed5b6f6d441ea22bebb7c144c54e6fc258a243c09c9c", func := "loop.example/g01101/laws.FnExactValidAutomaton", spec := "fnExactValidAutomaton", plainKeys := false, apart := false, narrowed := true }
def FnExactValidAutomatonUptoSaid : Prop := fnExactValidAutomatonUptoRow.holds Try.pinned (OpenSpec.upto fnExactValidAutomatonSpec)

/-- 'laws.FnExactSameAutomaton', WHERE WHAT IT READS IS OF BULK AT MOST 1048576: true; the input reads as it did. -/
def fnExactSameAutomatonUptoRow : OpenClaim := { program := "ytlnojmmjpgpjdaa", sum := "25d49e0bc6f58f12e5bfed5b6f6d441ea22bebb7c144c54e6fc258a243c09c9c", func := "loop.example/g01101/laws.FnExactSameAutomaton", spec := "fnExactSameAutomaton", unfollowed := true, recurses := true, plainKeys := false, apart := false, narrowed := true }
def FnExactSameAutomatonUptoSaid : Prop := fnExactSameAutomatonUptoRow.holds Try.pinned (OpenSpec.upto fnExactSameAutomatonSpec)

/-- 'laws.FnExactAcceptedCount', WHERE WHAT IT READS IS OF BULK AT MOST 1048576: true; the input reads as it did. -/
def fnExactAcceptedCountUptoRow : OpenClaim := { program := "ytlnojmmjpgpjdaa", sum := "25d49e0bc6f58f12e5bfed5b6f6d441ea22bebb7c144c54e6fc258a243c09c9c", func := "loop.example/g01101/laws.FnExactAcceptedCount", spec := "fnExactAcceptedCount", plainKeys := false, apart := false, narrowed := true }
def FnExactAcceptedCountUptoSaid : Prop := fnExactAcceptedCountUptoRow.holds Try.pinned (OpenSpec.upto fnExactAcceptedCountSpec)

/-- 'laws.FnExactReplaceActions', WHERE WHAT IT READS IS OF BULK AT MOST 1048576: true; the input reads as it did. -/
def fnExactReplaceActionsUptoRow : OpenClaim := { program := "ytlnojmmjpgpjdaa", sum := "25d49e0bc6f58f12e5bfed5b6f6d441ea22bebb7c144c54e6fc258a243c09c9c", func := "loop.example/g01101/laws.FnExactReplaceActions", spec := "fnExactReplaceActions", recurses := true, loops := true, plainKeys := false, apart := false, narrowed := true }
def FnExactReplaceActionsUptoSaid : Prop := fnExactReplaceActionsUptoRow.holds Try.pinned (OpenSpec.upto fnExactReplaceActionsSpec)

/-- 'laws.FnExactRunAutomaton', WHERE WHAT IT READS IS OF BULK AT MOST 1048576: true; the input reads as it did. -/
def fnExactRunAutomatonUptoRow : OpenClaim := { program := "ytlnojmmjpgpjdaa", sum := "25d49e0bc6f58f12e5bfed5b6f6d441ea22bebb7c144c54e6fc258a243c09c9c", func := "loop.example/g01101/laws.FnExactRunAutomaton", spec := "fnExactRunAutomaton", plainKeys := false, apart := false, narrowed := true }
def FnExactRunAutomatonUptoSaid : Prop := fnExactRunAutomatonUptoRow.holds Try.pinned (OpenSpec.upto fnExactRunAutomatonSpec)

/-- 'laws.FnExactMatches', WHERE WHAT IT READS IS OF BULK AT MOST 1048576: true; the input reads as it did. -/
def fnExactMatchesUptoRow : OpenClaim := { program := "ytlnojmmjpgpjdaa", sum := "25d49e0bc6f58f12e5bfed5b6f6d441ea22bebb7c144c54e6fc258a243c09c9c", func := "loop.example/g01101/laws.FnExactMatches", spec := "fnExactMatches", recurses := true, loops := true, plainKeys := false, apart := false, narrowed := true }
def FnExactMatchesUptoSaid : Prop := fnExactMatchesUptoRow.holds Try.pinned (OpenSpec.upto fnExactMatchesSpec)

/-- 'laws.FnExactMixAutomata', WHERE WHAT IT READS IS OF BULK AT MOST 1048576: true; the input reads as it did. -/
def fnExactMixAutomataUptoRow : OpenClaim := { program := "ytlnojmmjpgpjdaa", sum := "25d49e0bc6f58f12e5bfed5b6f6d441ea22bebb7c144c54e6fc258a243c09c9c", func := "loop.example/g01101/laws.FnExactMixAutomata", spec := "fnExactMixAutomata", plainKeys := false, apart := false, narrowed := true }
def FnExactMixAutomataUptoSaid : Prop := fnExactMixAutomataUptoRow.holds Try.pinned (OpenSpec.upto fnExactMixAutomataSpec)

/-- 'laws.FnExactFirstAccepted', WHERE WHAT IT READS IS OF BULK AT MOST 1048576: true; the input reads as it did. -/
def fnExactFirstAcceptedUptoRow : OpenClaim := { program := "ytlnojmmjpgpjdaa", sum := "25d49e0bc6f58f12e5bfed5b6f6d441ea22bebb7c144c54e6fc258a243c09c9c", func := "loop.example/g01101/laws.FnExactFirstAccepted", spec := "fnExactFirstAccepted", unfollowed := true, recurses := true, plainKeys := false, apart := false, narrowed := true }
def FnExactFirstAcceptedUptoSaid : Prop := fnExactFirstAcceptedUptoRow.holds Try.pinned (OpenSpec.upto fnExactFirstAcceptedSpec)

end Rows
end Go.Proofs.Ytlnojmmjpgpjdaa
