/-
  DERIVED. GIVEN WITH THE SEED: THE CARDS: each row of YtjlmdhoajfdkbaaDoorRows.lean that lists a variable, with what it lists TIED to the program's text (the seventh form; the later family's looks); each row that meets fmt, with fmt's text TOLD by the authors' own Lean function (tested against real Go, not proved from fmt's source: count such statements apart). THE CARD IS WHAT COUNTS. Prove the row's statement (the work); the ties are given (YtjlmdhoajfdkbaaDoorTie.lean); close each card by the builder's one call (the guide's Derived/Test/ToyasCard.lean, 'card_holds'). Laid BY PROGRAM, IN A SANDBOX (cutbox-door.mjs). By AI agents, Wed Nov 11 2026. No macro, syntax, notation, axiom, sorry.
-/
import Derived.Test.YtjlmdhoajfdkbaaDoorRows
import GoSem.ClaimSeven
namespace Go.Proofs.YtjlmdhoajfdkbaaDoor
namespace Rows

/-- THE TIED CARD OF 'laws.FnExactTidyExpr'. -/
def fnExactTidyExprCard : Claim7 := { stood := { row := fnExactTidyExprRow, standIns := [], harness := (true, "2d4222aee07fcc30a4df483419144a49ee02ebf1e9ec2efce34b57404186eab2"), looks := false }, kinds := [], alts := [], laidByText := true, laidKinds := [.data, .data, .data], laidTests := true, laidLooks := .later }
def FnExactTidyExprCardSaid : Prop := Claim7.holds Tryd.pinned (.plain (OpenSpec.ofChange fnExactTidyExprSpec)) fnExactTidyExprCard

/-- THE SECOND FORM's CARD OF 'laws.FnExactTidyExpr'. -/
def fnExactTidyExprUptoCard : Claim7 := { stood := { row := fnExactTidyExprUptoRow, standIns := [], harness := (true, "2d4222aee07fcc30a4df483419144a49ee02ebf1e9ec2efce34b57404186eab2"), looks := false }, kinds := [], alts := [], laidByText := true, laidKinds := [.data, .data, .data], laidTests := true, laidLooks := .later }
def FnExactTidyExprUptoCardSaid : Prop := Claim7.holds Tryd.pinned (.plain (OpenSpec.upto fnExactTidyExprSpec)) fnExactTidyExprUptoCard
end Rows
end Go.Proofs.YtjlmdhoajfdkbaaDoor
