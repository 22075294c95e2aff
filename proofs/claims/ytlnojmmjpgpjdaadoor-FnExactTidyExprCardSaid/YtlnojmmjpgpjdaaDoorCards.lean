/-
  DERIVED. GIVEN WITH THE SEED: THE CARDS: each row of YtlnojmmjpgpjdaaDoorRows.lean that lists a variable, with what it lists TIED to the program's text (the seventh form; the later family's looks); each row that meets fmt, with fmt's text TOLD by the authors' own Lean function (tested against real Go, not proved from fmt's source: count such statements apart). THE CARD IS WHAT COUNTS. Prove the row's statement (the work); the ties are given (YtlnojmmjpgpjdaaDoorTie.lean); close each card by the builder's one call (the guide's Derived/Test/ToyasCard.lean, 'card_holds'). Laid BY PROGRAM, IN A SANDBOX (cutbox-door.mjs). By AI agents, Wed Nov 11 2026. No macro, syntax, notation, axiom, sorry.
-/
import Derived.Test.YtlnojmmjpgpjdaaDoorRows
import GoSem.ClaimSeven
namespace Go.Proofs.YtlnojmmjpgpjdaaDoor
namespace Rows

/-- THE TIED CARD OF 'laws.FnExactLeastAutomaton'. -/
def fnExactLeastAutomatonCard : Claim7 := { stood := { row := fnExactLeastAutomatonRow, standIns := [], harness := (true, "b178630b1cf2b211fa9b436466377005c2ce769be5b2baa4be606bf0ee62e907"), looks := false }, kinds := [], alts := [], laidByText := true, laidKinds := [.data, .data, .data], laidTests := true, laidLooks := .later }
def FnExactLeastAutomatonCardSaid : Prop := Claim7.holds Tryd.pinned (.plain (OpenSpec.ofChange fnExactLeastAutomatonSpec)) fnExactLeastAutomatonCard

/-- THE TIED CARD OF 'laws.FnExactTidyExpr'. -/
def fnExactTidyExprCard : Claim7 := { stood := { row := fnExactTidyExprRow, standIns := [], harness := (true, "b178630b1cf2b211fa9b436466377005c2ce769be5b2baa4be606bf0ee62e907"), looks := false }, kinds := [], alts := [], laidByText := true, laidKinds := [.data, .data, .data], laidTests := true, laidLooks := .later }
def FnExactTidyExprCardSaid : Prop := Claim7.holds Tryd.pinned (.plain (OpenSpec.ofChange fnExactTidyExprSpec)) fnExactTidyExprCard

/-- THE SECOND FORM's CARD OF 'laws.FnExactLeastAutomaton'. -/
def fnExactLeastAutomatonUptoCard : Claim7 := { stood := { row := fnExactLeastAutomatonUptoRow, standIns := [], harness := (true, "b178630b1cf2b211fa9b436466377005c2ce769be5b2baa4be606bf0ee62e907"), looks := false }, kinds := [], alts := [], laidByText := true, laidKinds := [.data, .data, .data], laidTests := true, laidLooks := .later }
def FnExactLeastAutomatonUptoCardSaid : Prop := Claim7.holds Tryd.pinned (.plain (OpenSpec.upto fnExactLeastAutomatonSpec)) fnExactLeastAutomatonUptoCard

/-- THE SECOND FORM's CARD OF 'laws.FnExactTidyExpr'. -/
def fnExactTidyExprUptoCard : Claim7 := { stood := { row := fnExactTidyExprUptoRow, standIns := [], harness := (true, "b178630b1cf2b211fa9b436466377005c2ce769be5b2baa4be606bf0ee62e907"), looks := false }, kinds := [], alts := [], laidByText := true, laidKinds := [.data, .data, .data], laidTests := true, laidLooks := .later }
def FnExactTidyExprUptoCardSaid : Prop := Claim7.holds Tryd.pinned (.plain (OpenSpec.upto fnExactTidyExprSpec)) fnExactTidyExprUptoCard
end Rows
end Go.Proofs.YtlnojmmjpgpjdaaDoor
