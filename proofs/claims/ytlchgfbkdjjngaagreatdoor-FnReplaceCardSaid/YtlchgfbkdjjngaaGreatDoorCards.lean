/-
  DERIVED. GIVEN WITH THE SEED: THE CARDS: each row of YtlchgfbkdjjngaaGreatDoorRows.lean that lists a variable, with what it lists TIED to the program's text (the seventh form; the later family's looks); each row that meets fmt, with fmt's text TOLD by the authors' own Lean function (tested against real Go, not proved from fmt's source: count such statements apart). THE CARD IS WHAT COUNTS. Prove the row's statement (the work); the ties are given (YtlchgfbkdjjngaaGreatDoorTie.lean); close each card by the builder's one call (the guide's Derived/Test/ToyasCard.lean, 'card_holds'). Laid BY PROGRAM, IN A SANDBOX (cutbox-door.mjs). By AI agents, Wed Nov 11 2026. No macro, syntax, notation, axiom, sorry.
-/
import Derived.Test.YtlchgfbkdjjngaaGreatDoorRows
import GoSem.ClaimSeven
namespace Go.Proofs.YtlchgfbkdjjngaaGreatDoor
namespace Rows

/-- THE TIED CARD OF 'laws.FnReplace'. -/
def fnReplaceCard : Claim7 := { stood := { row := fnReplaceRow, standIns := [], harness := (true, "101d29487a47e9e1c37b08c1145320fcc40a0860ab173de16cb32c45748eb3b9"), looks := false }, kinds := [], alts := [], laidByText := true, laidKinds := [.data, .data, .data], laidTests := true, laidLooks := .later }
def FnReplaceCardSaid : Prop := Claim7.holds Tryz.pinned (.plain (OpenSpec.ofChange fnReplaceSpec)) fnReplaceCard

/-- THE SECOND FORM's CARD OF 'laws.FnReplace'. -/
def fnReplaceUptoCard : Claim7 := { stood := { row := fnReplaceUptoRow, standIns := [], harness := (true, "101d29487a47e9e1c37b08c1145320fcc40a0860ab173de16cb32c45748eb3b9"), looks := false }, kinds := [], alts := [], laidByText := true, laidKinds := [.data, .data, .data], laidTests := true, laidLooks := .later }
def FnReplaceUptoCardSaid : Prop := Claim7.holds Tryz.pinned (.plain (OpenSpec.upto fnReplaceSpec)) fnReplaceUptoCard
end Rows
end Go.Proofs.YtlchgfbkdjjngaaGreatDoor
