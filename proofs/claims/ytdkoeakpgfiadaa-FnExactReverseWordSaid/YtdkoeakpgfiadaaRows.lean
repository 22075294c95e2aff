/-
  NARROWER THAN 'FOR EVERY INPUT', by the rows' own cells (each row's printed sentence says how): FnExactExprSize: loops · FnExactIsCondition: loops · FnExactSameExpr: loops · FnExactValidExpr: loops.
  DERIVED. THE GIVEN ROWS OF THIS SEAT. 11 by the template 'for every input the law returns true; each argument reads behind the call as it read before'; 0 by the template 'total and deterministic' (their statements: YtdkoeakpgfiadaaTotals.lean).
  GIVEN WITH THE SEED: the statements are not yours to turn. If you find one false, say at which input.
  Laid BY PROGRAM, IN A SANDBOX (cutbox-rows.mjs): the forced cells as the released guide's own fill.sh prints them over the translation 1055ce645afc896b… (all of the seat's roots in one cut). By AI agents, Wed Nov 11 2026. No macro, syntax, notation, axiom, sorry.
-/
import Derived.Test.YtdkoeakpgfiadaaChecked
import GoSem.Claim
import GoSem.ClaimJoined
import GoSem.ClaimMapViews
import Derived.JoinedTies
import Derived.KernelRfl
namespace Go.Proofs.Ytdkoeakpgfiadaa
/- THE CELL 'sum', in the pinned program and in every row, IS THE sha256 OF THE DUMP (.gsa) THAT YtdkoeakpgfiadaaProg.lean LOADS. Nothing in Lean hashes anything: it is a label: what it is worth is what the hold of that sum in a sandbox is worth. -/
noncomputable def Try.pinned : Pinned := { name := "ytdkoeakpgfiadaa", sum := "1055ce645afc896b82476504ee0526d8791b81f9f85ae65b85dbbec5228e340a", checked := Try.checked }
namespace Rows
def none {H : Type} : Left H := { results := [], args := [] }

/-- 'laws.FnExactConstants': WHATEVER THE INPUT: true; the input reads as it did. -/
def fnExactConstantsSpec : ChangeSpec := { name := "fnExactConstants", fn := fun _ => fun
  | [] => { results := [.lit (.bool true)], args := [] }
  | _ => none }
def fnExactConstantsRow : OpenClaim := { program := "ytdkoeakpgfiadaa", sum := "1055ce645afc896b82476504ee0526d8791b81f9f85ae65b85dbbec5228e340a", func := "loop.example/g01101/laws.FnExactConstants", spec := "fnExactConstants", apart := false }
def FnExactConstantsSaid : Prop := fnExactConstantsRow.holds Try.pinned (OpenSpec.ofChange fnExactConstantsSpec)

/-- ITS FALSE NEIGHBOUR: 'it returns false'. Refute it at one input. -/
def fnExactConstantsWrong : ChangeSpec := { name := "fnExactConstants", fn := fun _ => fun
  | [] => { results := [.lit (.bool false)], args := [] }
  | _ => none }
def FnExactConstantsWrongFalsely : Prop := fnExactConstantsRow.holds Try.pinned (OpenSpec.ofChange fnExactConstantsWrong)

/-- 'laws.FnExactValidSig': WHATEVER THE INPUT: true; the input reads as it did. -/
def fnExactValidSigSpec : ChangeSpec := { name := "fnExactValidSig", fn := fun _ => fun
  | [d] => { results := [.lit (.bool true)], args := [d] }
  | _ => none }
def fnExactValidSigRow : OpenClaim := { program := "ytdkoeakpgfiadaa", sum := "1055ce645afc896b82476504ee0526d8791b81f9f85ae65b85dbbec5228e340a", func := "loop.example/g01101/laws.FnExactValidSig", spec := "fnExactValidSig", apart := false }
def FnExactValidSigSaid : Prop := fnExactValidSigRow.holds Try.pinned (OpenSpec.ofChange fnExactValidSigSpec)

/-- ITS FALSE NEIGHBOUR: 'it returns false'. Refute it at one input. -/
def fnExactValidSigWrong : ChangeSpec := { name := "fnExactValidSig", fn := fun _ => fun
  | [d] => { results := [.lit (.bool false)], args := [d] }
  | _ => none }
def FnExactValidSigWrongFalsely : Prop := fnExactValidSigRow.holds Try.pinned (OpenSpec.ofChange fnExactValidSigWrong)

/-- 'laws.FnExactCodeName': WHATEVER THE INPUT: true; the input reads as it did. -/
def fnExactCodeNameSpec : ChangeSpec := { name := "fnExactCodeName", fn := fun _ => fun
  | [d] => { results := [.lit (.bool true)], args := [d] }
  | _ => none }
def fnExactCodeNameRow : OpenClaim := { program := "ytdkoeakpgfiadaa", sum := "1055ce645afc896b82476504ee0526d8791b81f9f85ae65b85dbbec5228e340a", func := "loop.example/g01101/laws.FnExactCodeName", spec := "fnExactCodeName", apart := false }
def FnExactCodeNameSaid : Prop := fnExactCodeNameRow.holds Try.pinned (OpenSpec.ofChange fnExactCodeNameSpec)

/-- ITS FALSE NEIGHBOUR: 'it returns false'. Refute it at one input. -/
def fnExactCodeNameWrong : ChangeSpec := { name := "fnExactCodeName", fn := fun _ => fun
  | [d] => { results := [.lit (.bool false)], args := [d] }
  | _ => none }
def FnExactCodeNameWrongFalsely : Prop := fnExactCodeNameRow.holds Try.pinned (OpenSpec.ofChange fnExactCodeNameWrong)

/-- 'laws.FnExactExprSize': WHATEVER THE INPUT: true; the input reads as it did. -/
def fnExactExprSizeSpec : ChangeSpec := { name := "fnExactExprSize", fn := fun _ => fun
  | [d] => { results := [.lit (.bool true)], args := [d] }
  | _ => none }
def fnExactExprSizeRow : OpenClaim := { program := "ytdkoeakpgfiadaa", sum := "1055ce645afc896b82476504ee0526d8791b81f9f85ae65b85dbbec5228e340a", func := "loop.example/g01101/laws.FnExactExprSize", spec := "fnExactExprSize", recurses := true, loops := true, apart := false }
def FnExactExprSizeSaid : Prop := fnExactExprSizeRow.holds Try.pinned (OpenSpec.ofChange fnExactExprSizeSpec)

/-- ITS FALSE NEIGHBOUR: 'it returns false'. Refute it at one input. -/
def fnExactExprSizeWrong : ChangeSpec := { name := "fnExactExprSize", fn := fun _ => fun
  | [d] => { results := [.lit (.bool false)], args := [d] }
  | _ => none }
def FnExactExprSizeWrongFalsely : Prop := fnExactExprSizeRow.holds Try.pinned (OpenSpec.ofChange fnExactExprSizeWrong)

/-- 'laws.FnExactSameWord': WHATEVER THE INPUT: true; the input reads as it did. -/
def fnExactSameWordSpec : ChangeSpec := { name := "fnExactSameWord", fn := fun _ => fun
  | [d1, d2] => { results := [.lit (.bool true)], args := [d1, d2] }
  | _ => none }
def fnExactSameWordRow : OpenClaim := { program := "ytdkoeakpgfiadaa", sum := "1055ce645afc896b82476504ee0526d8791b81f9f85ae65b85dbbec5228e340a", func := "loop.example/g01101/laws.FnExactSameWord", spec := "fnExactSameWord", apart := false }
def FnExactSameWordSaid : Prop := fnExactSameWordRow.holds Try.pinned (OpenSpec.ofChange fnExactSameWordSpec)

/-- ITS FALSE NEIGHBOUR: 'it returns false'. Refute it at one input. -/
def fnExactSameWordWrong : ChangeSpec := { name := "fnExactSameWord", fn := fun _ => fun
  | [d1, d2] => { results := [.lit (.bool false)], args := [d1, d2] }
  | _ => none }
def FnExactSameWordWrongFalsely : Prop := fnExactSameWordRow.holds Try.pinned (OpenSpec.ofChange fnExactSameWordWrong)

/-- 'laws.FnExactIsCondition': WHATEVER THE INPUT: true; the input reads as it did. -/
def fnExactIsConditionSpec : ChangeSpec := { name := "fnExactIsCondition", fn := fun _ => fun
  | [d] => { results := [.lit (.bool true)], args := [d] }
  | _ => none }
def fnExactIsConditionRow : OpenClaim := { program := "ytdkoeakpgfiadaa", sum := "1055ce645afc896b82476504ee0526d8791b81f9f85ae65b85dbbec5228e340a", func := "loop.example/g01101/laws.FnExactIsCondition", spec := "fnExactIsCondition", recurses := true, loops := true, apart := false }
def FnExactIsConditionSaid : Prop := fnExactIsConditionRow.holds Try.pinned (OpenSpec.ofChange fnExactIsConditionSpec)

/-- ITS FALSE NEIGHBOUR: 'it returns false'. Refute it at one input. -/
def fnExactIsConditionWrong : ChangeSpec := { name := "fnExactIsCondition", fn := fun _ => fun
  | [d] => { results := [.lit (.bool false)], args := [d] }
  | _ => none }
def FnExactIsConditionWrongFalsely : Prop := fnExactIsConditionRow.holds Try.pinned (OpenSpec.ofChange fnExactIsConditionWrong)

/-- 'laws.FnExactSameExpr': WHATEVER THE INPUT: true; the input reads as it did. -/
def fnExactSameExprSpec : ChangeSpec := { name := "fnExactSameExpr", fn := fun _ => fun
  | [d1, d2] => { results := [.lit (.bool true)], args := [d1, d2] }
  | _ => none }
def fnExactSameExprRow : OpenClaim := { program := "ytdkoeakpgfiadaa", sum := "1055ce645afc896b82476504ee0526d8791b81f9f85ae65b85dbbec5228e340a", func := "loop.example/g01101/laws.FnExactSameExpr", spec := "fnExactSameExpr", unfollowed := true, recurses := true, loops := true, apart := false }
def FnExactSameExprSaid : Prop := fnExactSameExprRow.holds Try.pinned (OpenSpec.ofChange fnExactSameExprSpec)

/-- ITS FALSE NEIGHBOUR: 'it returns false'. Refute it at one input. -/
def fnExactSameExprWrong : ChangeSpec := { name := "fnExactSameExpr", fn := fun _ => fun
  | [d1, d2] => { results := [.lit (.bool false)], args := [d1, d2] }
  | _ => none }
def FnExactSameExprWrongFalsely : Prop := fnExactSameExprRow.holds Try.pinned (OpenSpec.ofChange fnExactSameExprWrong)

/-- 'laws.FnExactValidWord': WHATEVER THE INPUT: true; the input reads as it did. -/
def fnExactValidWordSpec : ChangeSpec := { name := "fnExactValidWord", fn := fun _ => fun
  | [d1, d2] => { results := [.lit (.bool true)], args := [d1, d2] }
  | _ => none }
def fnExactValidWordRow : OpenClaim := { program := "ytdkoeakpgfiadaa", sum := "1055ce645afc896b82476504ee0526d8791b81f9f85ae65b85dbbec5228e340a", func := "loop.example/g01101/laws.FnExactValidWord", spec := "fnExactValidWord", apart := false }
def FnExactValidWordSaid : Prop := fnExactValidWordRow.holds Try.pinned (OpenSpec.ofChange fnExactValidWordSpec)

/-- ITS FALSE NEIGHBOUR: 'it returns false'. Refute it at one input. -/
def fnExactValidWordWrong : ChangeSpec := { name := "fnExactValidWord", fn := fun _ => fun
  | [d1, d2] => { results := [.lit (.bool false)], args := [d1, d2] }
  | _ => none }
def FnExactValidWordWrongFalsely : Prop := fnExactValidWordRow.holds Try.pinned (OpenSpec.ofChange fnExactValidWordWrong)

/-- 'laws.FnExactReverseWord': WHATEVER THE INPUT: true; the input reads as it did. -/
def fnExactReverseWordSpec : ChangeSpec := { name := "fnExactReverseWord", fn := fun _ => fun
  | [d1, d2] => { results := [.lit (.bool true)], args := [d1, d2] }
  | _ => none }
def fnExactReverseWordRow : OpenClaim := { program := "ytdkoeakpgfiadaa", sum := "1055ce645afc896b82476504ee0526d8791b81f9f85ae65b85dbbec5228e340a", func := "loop.example/g01101/laws.FnExactReverseWord", spec := "fnExactReverseWord", apart := false }
def FnExactReverseWordSaid : Prop := fnExactReverseWordRow.holds Try.pinned (OpenSpec.ofChange fnExactReverseWordSpec)

/-- ITS FALSE NEIGHBOUR: 'it returns false'. Refute it at one input. -/
def fnExactReverseWordWrong : ChangeSpec := { name := "fnExactReverseWord", fn := fun _ => fun
  | [d1, d2] => { results := [.lit (.bool false)], args := [d1, d2] }
  | _ => none }
def FnExactReverseWordWrongFalsely : Prop := fnExactReverseWordRow.holds Try.pinned (OpenSpec.ofChange fnExactReverseWordWrong)

/-- 'laws.FnExactFuseWords': WHATEVER THE INPUT: true; the input reads as it did. -/
def fnExactFuseWordsSpec : ChangeSpec := { name := "fnExactFuseWords", fn := fun _ => fun
  | [d1, d2, d3] => { results := [.lit (.bool true)], args := [d1, d2, d3] }
  | _ => none }
def fnExactFuseWordsRow : OpenClaim := { program := "ytdkoeakpgfiadaa", sum := "1055ce645afc896b82476504ee0526d8791b81f9f85ae65b85dbbec5228e340a", func := "loop.example/g01101/laws.FnExactFuseWords", spec := "fnExactFuseWords", apart := false }
def FnExactFuseWordsSaid : Prop := fnExactFuseWordsRow.holds Try.pinned (OpenSpec.ofChange fnExactFuseWordsSpec)

/-- ITS FALSE NEIGHBOUR: 'it returns false'. Refute it at one input. -/
def fnExactFuseWordsWrong : ChangeSpec := { name := "fnExactFuseWords", fn := fun _ => fun
  | [d1, d2, d3] => { results := [.lit (.bool false)], args := [d1, d2, d3] }
  | _ => none }
def FnExactFuseWordsWrongFalsely : Prop := fnExactFuseWordsRow.holds Try.pinned (OpenSpec.ofChange fnExactFuseWordsWrong)

/-- 'laws.FnExactValidExpr': WHATEVER THE INPUT: true; the input reads as it did. -/
def fnExactValidExprSpec : ChangeSpec := { name := "fnExactValidExpr", fn := fun _ => fun
  | [d1, d2] => { results := [.lit (.bool true)], args := [d1, d2] }
  | _ => none }
def fnExactValidExprRow : OpenClaim := { program := "ytdkoeakpgfiadaa", sum := "1055ce645afc896b82476504ee0526d8791b81f9f85ae65b85dbbec5228e340a", func := "loop.example/g01101/laws.FnExactValidExpr", spec := "fnExactValidExpr", recurses := true, loops := true, apart := false }
def FnExactValidExprSaid : Prop := fnExactValidExprRow.holds Try.pinned (OpenSpec.ofChange fnExactValidExprSpec)

/-- ITS FALSE NEIGHBOUR: 'it returns false'. Refute it at one input. -/
def fnExactValidExprWrong : ChangeSpec := { name := "fnExactValidExpr", fn := fun _ => fun
  | [d1, d2] => { results := [.lit (.bool false)], args := [d1, d2] }
  | _ => none }
def FnExactValidExprWrongFalsely : Prop := fnExactValidExprRow.holds Try.pinned (OpenSpec.ofChange fnExactValidExprWrong)

/- THE SECOND FORM. 'bulk': how many values and letters a reading holds, each counted each time it is reached (what is shared counts as often as it is met; a slice's spare places count too). A statement '..UptoSaid' is the law's where the arguments, and the package variables that the reading takes, are together of bulk at most 1048576: NARROWER than '..Said'. Prove '..Said' where nothing that the law and all that it calls make is longer than what came in: it says more and counts as full. Else prove '..UptoSaid'. A law counts once. -/
mutual
def uptoBulk {H : Type} : DataW H → Nat
  | .lit (.string bytes) => bytes.length + 1
  | .lit _ => 1
  | .nil => 1
  | .ptr d => uptoBulk d + 1
  | .slice elems spare => uptoBulkAll elems + uptoBulkAll spare + 1
  | .agg parts => uptoBulkAll parts + 1
  | .iface _ d => uptoBulk d + 1
  | .map entries => uptoBulkEntries entries + 1
  | .held _ => 1
def uptoBulkAll {H : Type} : List (DataW H) → Nat
  | [] => 0
  | d :: r => uptoBulk d + uptoBulkAll r
def uptoBulkEntries {H : Type} : List (Lit × DataW H) → Nat
  | [] => 0
  | x :: r => uptoBulkEntry x + uptoBulkEntries r
def uptoBulkEntry {H : Type} : Lit × DataW H → Nat
  | (.string bytes, d) => bytes.length + uptoBulk d + 1
  | (_, d) => uptoBulk d + 1
 end
def uptoSmall : (H : Type) → List (DataW H) → Bool := fun _ ds => decide (uptoBulkAll ds ≤ 1048576)
def OpenSpec.upto (s : _root_.Go.ChangeSpec) : _root_.Go.OpenSpec := { _root_.Go.OpenSpec.ofChange s with cond := some uptoSmall }

/-- 'laws.FnExactConstants', WHERE WHAT IT READS IS OF BULK AT MOST 1048576: true; the input reads as it did. -/
def fnExactConstantsUptoRow : OpenClaim := { program := "ytdkoeakpgfiadaa", sum := "1055ce645afc896b82476504ee0526d8791b81f9f85ae65b85dbbec5228e340a", func := "loop.example/g01101/laws.FnExactConstants", spec := "fnExactConstants", apart := false, narrowed := true }
def FnExactConstantsUptoSaid : Prop := fnExactConstantsUptoRow.holds Try.pinned (OpenSpec.upto fnExactConstantsSpec)

/-- 'laws.FnExactValidSig', WHERE WHAT IT READS IS OF BULK AT MOST 1048576: true; the input reads as it did. -/
def fnExactValidSigUptoRow : OpenClaim := { program := "ytdkoeakpgfiadaa", sum := "1055ce645afc896b82476504ee0526d8791b81f9f85ae65b85dbbec5228e340a", func := "loop.example/g01101/laws.FnExactValidSig", spec := "fnExactValidSig", apart := false, narrowed := true }
def FnExactValidSigUptoSaid : Prop := fnExactValidSigUptoRow.holds Try.pinned (OpenSpec.upto fnExactValidSigSpec)

/-- 'laws.FnExactCodeName', WHERE WHAT IT READS IS OF BULK AT MOST 1048576: true; the input reads as it did. -/
def fnExactCodeNameUptoRow : OpenClaim := { program := "ytdkoeakpgfiadaa", sum := "1055ce645afc896b82476504ee0526d8791b81f9f85ae65b85dbbec5228e340a", func := "loop.example/g01101/laws.FnExactCodeName", spec := "fnExactCodeName", apart := false, narrowed := true }
def FnExactCodeNameUptoSaid : Prop := fnExactCodeNameUptoRow.holds Try.pinned (OpenSpec.upto fnExactCodeNameSpec)

/-- 'laws.FnExactExprSize', WHERE WHAT IT READS IS OF BULK AT MOST 1048576: true; the input reads as it did. -/
def fnExactExprSizeUptoRow : OpenClaim := { program := "ytdkoeakpgfiadaa", sum := "1055ce645afc896b82476504ee0526d8791b81f9f85ae65b85dbbec5228e340a", func := "loop.example/g01101/laws.FnExactExprSize", spec := "fnExactExprSize", recurses := true, loops := true, apart := false, narrowed := true }
def FnExactExprSizeUptoSaid : Prop := fnExactExprSizeUptoRow.holds Try.pinned (OpenSpec.upto fnExactExprSizeSpec)

/-- 'laws.FnExactSameWord', WHERE WHAT IT READS IS OF BULK AT MOST 1048576: true; the input reads as it did. -/
def fnExactSameWordUptoRow : OpenClaim := { program := "ytdkoeakpgfiadaa", sum := "1055ce645afc896b82476504ee0526d8791b81f9f85ae65b85dbbec5228e340a", func := "loop.example/g01101/laws.FnExactSameWord", spec := "fnExactSameWord", apart := false, narrowed := true }
def FnExactSameWordUptoSaid : Prop := fnExactSameWordUptoRow.holds Try.pinned (OpenSpec.upto fnExactSameWordSpec)

/-- 'laws.FnExactIsCondition', WHERE WHAT IT READS IS OF BULK AT MOST 1048576: true; the input reads as it did. -/
def fnExactIsConditionUptoRow : OpenClaim := { program := "ytdkoeakpgfiadaa", sum := "1055ce645afc896b82476504ee0526d8791b81f9f85ae65b85dbbec5228e340a", func := "loop.example/g01101/laws.FnExactIsCondition", spec := "fnExactIsCondition", recurses := true, loops := true, apart := false, narrowed := true }
def FnExactIsConditionUptoSaid : Prop := fnExactIsConditionUptoRow.holds Try.pinned (OpenSpec.upto fnExactIsConditionSpec)

/-- 'laws.FnExactSameExpr', WHERE WHAT IT READS IS OF BULK AT MOST 1048576: true; the input reads as it did. -/
def fnExactSameExprUptoRow : OpenClaim := { program := "ytdkoeakpgfiadaa", sum := "1055ce645afc896b82476504ee0526d8791b81f9f85ae65b85dbbec5228e340a", func := "loop.example/g01101/laws.FnExactSameExpr", spec := "fnExactSameExpr", unfollowed := true, recurses := true, loops := true, apart := false, narrowed := true }
def FnExactSameExprUptoSaid : Prop := fnExactSameExprUptoRow.holds Try.pinned (OpenSpec.upto fnExactSameExprSpec)

/-- 'laws.FnExactValidWord', WHERE WHAT IT READS IS OF BULK AT MOST 1048576: true; the input reads as it did. -/
def fnExactValidWordUptoRow : OpenClaim := { program := "ytdkoeakpgfiadaa", sum := "1055ce645afc896b82476504ee0526d8791b81f9f85ae65b85dbbec5228e340a", func := "loop.example/g01101/laws.FnExactValidWord", spec := "fnExactValidWord", apart := false, narrowed := true }
def FnExactValidWordUptoSaid : Prop := fnExactValidWordUptoRow.holds Try.pinned (OpenSpec.upto fnExactValidWordSpec)

/-- 'laws.FnExactReverseWord', WHERE WHAT IT READS IS OF BULK AT MOST 1048576: true; the input reads as it did. -/
def fnExactReverseWordUptoRow : OpenClaim := { program := "ytdkoeakpgfiadaa", sum := "1055ce645afc896b82476504ee0526d8791b81f9f85ae65b85dbbec5228e340a", func := "loop.example/g01101/laws.FnExactReverseWord", spec := "fnExactReverseWord", apart := false, narrowed := true }
def FnExactReverseWordUptoSaid : Prop := fnExactReverseWordUptoRow.holds Try.pinned (OpenSpec.upto fnExactReverseWordSpec)

/-- 'laws.FnExactFuseWords', WHERE WHAT IT READS IS OF BULK AT MOST 1048576: true; the input reads as it did. -/
def fnExactFuseWordsUptoRow : OpenClaim := { program := "ytdkoeakpgfiadaa", sum := "1055ce645afc896b82476504ee0526d8791b81f9f85ae65b85dbbec5228e340a", func := "loop.example/g01101/laws.FnExactFuseWords", spec := "fnExactFuseWords", apart := false, narrowed := true }
def FnExactFuseWordsUptoSaid : Prop := fnExactFuseWordsUptoRow.holds Try.pinned (OpenSpec.upto fnExactFuseWordsSpec)

/-- 'laws.FnExactValidExpr', WHERE WHAT IT READS IS OF BULK AT MOST 1048576: true; the input reads as it did. -/
def fnExactValidExprUptoRow : OpenClaim := { program := "ytdkoeakpgfiadaa", sum := "1055ce645afc896b82476504ee0526d8791b81f9f85ae65b85dbbec5228e340a", func := "loop.example/g01101/laws.FnExactValidExpr", spec := "fnExactValidExpr", recurses := true, loops := true, apart := false, narrowed := true }
def FnExactValidExprUptoSaid : Prop := fnExactValidExprUptoRow.holds Try.pinned (OpenSpec.upto fnExactValidExprSpec)

end Rows
end Go.Proofs.Ytdkoeakpgfiadaa
