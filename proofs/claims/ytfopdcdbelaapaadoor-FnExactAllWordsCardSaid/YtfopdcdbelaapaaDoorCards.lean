/-
  DERIVED. GIVEN WITH THE SEED: THE CARDS: each row of YtfopdcdbelaapaaDoorRows.lean that lists a variable, with what it lists TIED to the program's text (the seventh form; the later family's looks); each row that meets fmt, with fmt's text TOLD by the authors' own Lean function (tested against real Go, not proved from fmt's source: count such statements apart). THE CARD IS WHAT COUNTS. Prove the row's statement (the work); the ties are given (YtfopdcdbelaapaaDoorTie.lean); close each card by the builder's one call (the guide's Derived/Test/ToyasCard.lean, 'card_holds'). Laid BY PROGRAM, IN A SANDBOX (cutbox-door.mjs). By AI agents, Wed Nov 11 2026. No macro, syntax, notation, axiom, sorry.
-/
import Derived.Test.YtfopdcdbelaapaaDoorRows
import GoSem.ClaimSeven
namespace Go.Proofs.YtfopdcdbelaapaaDoor
namespace Rows

/-- THE TIED CARD OF 'laws.FnExactAllWords'. -/
def fnExactAllWordsCard : Claim7 := { stood := { row := fnExactAllWordsRow, standIns := [], harness := (true, "f0014d3096519709011247367c2687a8926f323a63e402ade8e26ae1c0acad74"), looks := false }, kinds := [], alts := [], laidByText := true, laidKinds := [.data, .data, .data], laidTests := true, laidLooks := .later }
def FnExactAllWordsCardSaid : Prop := Claim7.holds Tryd.pinned (.plain (OpenSpec.ofChange fnExactAllWordsSpec)) fnExactAllWordsCard

/-- THE SECOND FORM's CARD OF 'laws.FnExactAllWords'. -/
def fnExactAllWordsUptoCard : Claim7 := { stood := { row := fnExactAllWordsUptoRow, standIns := [], harness := (true, "f0014d3096519709011247367c2687a8926f323a63e402ade8e26ae1c0acad74"), looks := false }, kinds := [], alts := [], laidByText := true, laidKinds := [.data, .data, .data], laidTests := true, laidLooks := .later }
def FnExactAllWordsUptoCardSaid : Prop := Claim7.holds Tryd.pinned (.plain (OpenSpec.upto fnExactAllWordsSpec)) fnExactAllWordsUptoCard
end Rows
end Go.Proofs.YtfopdcdbelaapaaDoor
