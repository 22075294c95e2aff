/-
  DERIVED. GIVEN WITH THE SEED: THE CARDS: each row of YtfhlddbngjlhbaaDoorRows.lean that lists a variable, with what it lists TIED to the program's text (the seventh form; the later family's looks); each row that meets fmt, with fmt's text TOLD by the authors' own Lean function (tested against real Go, not proved from fmt's source: count such statements apart). THE CARD IS WHAT COUNTS. Prove the row's statement (the work); the ties are given (YtfhlddbngjlhbaaDoorTie.lean); close each card by the builder's one call (the guide's Derived/Test/ToyasCard.lean, 'card_holds'). Laid BY PROGRAM, IN A SANDBOX (cutbox-door.mjs). By AI agents, Wed Nov 11 2026. No macro, syntax, notation, axiom, sorry.
-/
import Derived.Test.YtfhlddbngjlhbaaDoorRows
import GoSem.ClaimSeven
namespace Go.Proofs.YtfhlddbngjlhbaaDoor
namespace Rows

/-- THE TIED CARD OF 'laws.FnExactLeastAutomaton'. -/
def fnExactLeastAutomatonCard : Claim7 := { stood := { row := fnExactLeastAutomatonRow, standIns := [], harness := (true, "427286bffe40f25c4e9edaec8207572f4c8428ea8db846e1a212d0fd32226ba3"), looks := false }, kinds := [], alts := [], laidByText := true, laidKinds := [.data, .data, .data], laidTests := true, laidLooks := .later }
def FnExactLeastAutomatonCardSaid : Prop := Claim7.holds Tryd.pinned (.plain (OpenSpec.ofChange fnExactLeastAutomatonSpec)) fnExactLeastAutomatonCard

/-- THE SECOND FORM's CARD OF 'laws.FnExactLeastAutomaton'. -/
def fnExactLeastAutomatonUptoCard : Claim7 := { stood := { row := fnExactLeastAutomatonUptoRow, standIns := [], harness := (true, "427286bffe40f25c4e9edaec8207572f4c8428ea8db846e1a212d0fd32226ba3"), looks := false }, kinds := [], alts := [], laidByText := true, laidKinds := [.data, .data, .data], laidTests := true, laidLooks := .later }
def FnExactLeastAutomatonUptoCardSaid : Prop := Claim7.holds Tryd.pinned (.plain (OpenSpec.upto fnExactLeastAutomatonSpec)) fnExactLeastAutomatonUptoCard
end Rows
end Go.Proofs.YtfhlddbngjlhbaaDoor
