/-
  DERIVED. GIVEN WITH THE SEED: THE CARDS: each row of YtjlmdhoajfdkbaaGreatDoorRows.lean that lists a variable, with what it lists TIED to the program's text (the seventh form; the later family's looks); each row that meets fmt, with fmt's text TOLD by the authors' own Lean function (tested against real Go, not proved from fmt's source: count such statements apart). THE CARD IS WHAT COUNTS. Prove the row's statement (the work); the ties are given (YtjlmdhoajfdkbaaGreatDoorTie.lean); close each card by the builder's one call (the guide's Derived/Test/ToyasCard.lean, 'card_holds'). Laid BY PROGRAM, IN A SANDBOX (cutbox-door.mjs). By AI agents, Wed Nov 11 2026. No macro, syntax, notation, axiom, sorry.
-/
import Derived.Test.YtjlmdhoajfdkbaaGreatDoorRows
import GoSem.ClaimSeven
namespace Go.Proofs.YtjlmdhoajfdkbaaGreatDoor
namespace Rows

/-- THE TIED CARD OF 'laws.FnExactDerive'. -/
def fnExactDeriveCard : Claim7 := { stood := { row := fnExactDeriveRow, standIns := [], harness := (true, "c0e5eb12dfe3fc4bd7c549e9df75c7994ce45842124221c577381dec16a35d66"), looks := false }, kinds := [], alts := [], laidByText := true, laidKinds := [.data, .data, .data], laidTests := true, laidLooks := .later }
def FnExactDeriveCardSaid : Prop := Claim7.holds Tryz.pinned (.plain (OpenSpec.ofChange fnExactDeriveSpec)) fnExactDeriveCard

/-- THE TIED CARD OF 'laws.FnExactStatesOf'. -/
def fnExactStatesOfCard : Claim7 := { stood := { row := fnExactStatesOfRow, standIns := [], harness := (true, "c0e5eb12dfe3fc4bd7c549e9df75c7994ce45842124221c577381dec16a35d66"), looks := false }, kinds := [], alts := [], laidByText := true, laidKinds := [.data, .data, .data], laidTests := true, laidLooks := .later }
def FnExactStatesOfCardSaid : Prop := Claim7.holds Tryz.pinned (.plain (OpenSpec.ofChange fnExactStatesOfSpec)) fnExactStatesOfCard

/-- THE TIED CARD OF 'laws.FnExactCheckBisim'. -/
def fnExactCheckBisimCard : Claim7 := { stood := { row := fnExactCheckBisimRow, standIns := [], harness := (true, "c0e5eb12dfe3fc4bd7c549e9df75c7994ce45842124221c577381dec16a35d66"), looks := false }, kinds := [], alts := [], laidByText := true, laidKinds := [.data, .data, .data], laidTests := true, laidLooks := .later }
def FnExactCheckBisimCardSaid : Prop := Claim7.holds Tryz.pinned (.plain (OpenSpec.ofChange fnExactCheckBisimSpec)) fnExactCheckBisimCard

/-- THE TIED CARD OF 'laws.FnExactDeriveWord'. -/
def fnExactDeriveWordCard : Claim7 := { stood := { row := fnExactDeriveWordRow, standIns := [], harness := (true, "c0e5eb12dfe3fc4bd7c549e9df75c7994ce45842124221c577381dec16a35d66"), looks := false }, kinds := [], alts := [], laidByText := true, laidKinds := [.data, .data, .data], laidTests := true, laidLooks := .later }
def FnExactDeriveWordCardSaid : Prop := Claim7.holds Tryz.pinned (.plain (OpenSpec.ofChange fnExactDeriveWordSpec)) fnExactDeriveWordCard

/-- THE TIED CARD OF 'laws.FnExactCountWords'. -/
def fnExactCountWordsCard : Claim7 := { stood := { row := fnExactCountWordsRow, standIns := [], harness := (true, "c0e5eb12dfe3fc4bd7c549e9df75c7994ce45842124221c577381dec16a35d66"), looks := false }, kinds := [], alts := [], laidByText := true, laidKinds := [.data, .data, .data], laidTests := true, laidLooks := .later }
def FnExactCountWordsCardSaid : Prop := Claim7.holds Tryz.pinned (.plain (OpenSpec.ofChange fnExactCountWordsSpec)) fnExactCountWordsCard

/-- THE TIED CARD OF 'laws.FnExactIsEmptyExpr'. -/
def fnExactIsEmptyExprCard : Claim7 := { stood := { row := fnExactIsEmptyExprRow, standIns := [], harness := (true, "c0e5eb12dfe3fc4bd7c549e9df75c7994ce45842124221c577381dec16a35d66"), looks := false }, kinds := [], alts := [], laidByText := true, laidKinds := [.data, .data, .data], laidTests := true, laidLooks := .later }
def FnExactIsEmptyExprCardSaid : Prop := Claim7.holds Tryz.pinned (.plain (OpenSpec.ofChange fnExactIsEmptyExprSpec)) fnExactIsEmptyExprCard

/-- THE TIED CARD OF 'laws.FnExactAtMost'. -/
def fnExactAtMostCard : Claim7 := { stood := { row := fnExactAtMostRow, standIns := [], harness := (true, "c0e5eb12dfe3fc4bd7c549e9df75c7994ce45842124221c577381dec16a35d66"), looks := false }, kinds := [], alts := [], laidByText := true, laidKinds := [.data, .data, .data], laidTests := true, laidLooks := .later }
def FnExactAtMostCardSaid : Prop := Claim7.holds Tryz.pinned (.plain (OpenSpec.ofChange fnExactAtMostSpec)) fnExactAtMostCard

/-- THE TIED CARD OF 'laws.FnExactLengthsOf'. -/
def fnExactLengthsOfCard : Claim7 := { stood := { row := fnExactLengthsOfRow, standIns := [], harness := (true, "c0e5eb12dfe3fc4bd7c549e9df75c7994ce45842124221c577381dec16a35d66"), looks := false }, kinds := [], alts := [], laidByText := true, laidKinds := [.data, .data, .data], laidTests := true, laidLooks := .later }
def FnExactLengthsOfCardSaid : Prop := Claim7.holds Tryz.pinned (.plain (OpenSpec.ofChange fnExactLengthsOfSpec)) fnExactLengthsOfCard

/-- THE TIED CARD OF 'laws.FnExactEqualExprs'. -/
def fnExactEqualExprsCard : Claim7 := { stood := { row := fnExactEqualExprsRow, standIns := [], harness := (true, "c0e5eb12dfe3fc4bd7c549e9df75c7994ce45842124221c577381dec16a35d66"), looks := false }, kinds := [], alts := [], laidByText := true, laidKinds := [.data, .data, .data], laidTests := true, laidLooks := .later }
def FnExactEqualExprsCardSaid : Prop := Claim7.holds Tryz.pinned (.plain (OpenSpec.ofChange fnExactEqualExprsSpec)) fnExactEqualExprsCard

/-- THE TIED CARD OF 'laws.FnExactAutomatonOf'. -/
def fnExactAutomatonOfCard : Claim7 := { stood := { row := fnExactAutomatonOfRow, standIns := [], harness := (true, "c0e5eb12dfe3fc4bd7c549e9df75c7994ce45842124221c577381dec16a35d66"), looks := false }, kinds := [], alts := [], laidByText := true, laidKinds := [.data, .data, .data], laidTests := true, laidLooks := .later }
def FnExactAutomatonOfCardSaid : Prop := Claim7.holds Tryz.pinned (.plain (OpenSpec.ofChange fnExactAutomatonOfSpec)) fnExactAutomatonOfCard

/-- THE TIED CARD OF 'laws.FnExactWordsUpTo'. -/
def fnExactWordsUpToCard : Claim7 := { stood := { row := fnExactWordsUpToRow, standIns := [], harness := (true, "c0e5eb12dfe3fc4bd7c549e9df75c7994ce45842124221c577381dec16a35d66"), looks := false }, kinds := [], alts := [], laidByText := true, laidKinds := [.data, .data, .data], laidTests := true, laidLooks := .later }
def FnExactWordsUpToCardSaid : Prop := Claim7.holds Tryz.pinned (.plain (OpenSpec.ofChange fnExactWordsUpToSpec)) fnExactWordsUpToCard

/-- THE SECOND FORM's CARD OF 'laws.FnExactDerive'. -/
def fnExactDeriveUptoCard : Claim7 := { stood := { row := fnExactDeriveUptoRow, standIns := [], harness := (true, "c0e5eb12dfe3fc4bd7c549e9df75c7994ce45842124221c577381dec16a35d66"), looks := false }, kinds := [], alts := [], laidByText := true, laidKinds := [.data, .data, .data], laidTests := true, laidLooks := .later }
def FnExactDeriveUptoCardSaid : Prop := Claim7.holds Tryz.pinned (.plain (OpenSpec.upto fnExactDeriveSpec)) fnExactDeriveUptoCard

/-- THE SECOND FORM's CARD OF 'laws.FnExactStatesOf'. -/
def fnExactStatesOfUptoCard : Claim7 := { stood := { row := fnExactStatesOfUptoRow, standIns := [], harness := (true, "c0e5eb12dfe3fc4bd7c549e9df75c7994ce45842124221c577381dec16a35d66"), looks := false }, kinds := [], alts := [], laidByText := true, laidKinds := [.data, .data, .data], laidTests := true, laidLooks := .later }
def FnExactStatesOfUptoCardSaid : Prop := Claim7.holds Tryz.pinned (.plain (OpenSpec.upto fnExactStatesOfSpec)) fnExactStatesOfUptoCard

/-- THE SECOND FORM's CARD OF 'laws.FnExactCheckBisim'. -/
def fnExactCheckBisimUptoCard : Claim7 := { stood := { row := fnExactCheckBisimUptoRow, standIns := [], harness := (true, "c0e5eb12dfe3fc4bd7c549e9df75c7994ce45842124221c577381dec16a35d66"), looks := false }, kinds := [], alts := [], laidByText := true, laidKinds := [.data, .data, .data], laidTests := true, laidLooks := .later }
def FnExactCheckBisimUptoCardSaid : Prop := Claim7.holds Tryz.pinned (.plain (OpenSpec.upto fnExactCheckBisimSpec)) fnExactCheckBisimUptoCard

/-- THE SECOND FORM's CARD OF 'laws.FnExactDeriveWord'. -/
def fnExactDeriveWordUptoCard : Claim7 := { stood := { row := fnExactDeriveWordUptoRow, standIns := [], harness := (true, "c0e5eb12dfe3fc4bd7c549e9df75c7994ce45842124221c577381dec16a35d66"), looks := false }, kinds := [], alts := [], laidByText := true, laidKinds := [.data, .data, .data], laidTests := true, laidLooks := .later }
def FnExactDeriveWordUptoCardSaid : Prop := Claim7.holds Tryz.pinned (.plain (OpenSpec.upto fnExactDeriveWordSpec)) fnExactDeriveWordUptoCard

/-- THE SECOND FORM's CARD OF 'laws.FnExactCountWords'. -/
def fnExactCountWordsUptoCard : Claim7 := { stood := { row := fnExactCountWordsUptoRow, standIns := [], harness := (true, "c0e5eb12dfe3fc4bd7c549e9df75c7994ce45842124221c577381dec16a35d66"), looks := false }, kinds := [], alts := [], laidByText := true, laidKinds := [.data, .data, .data], laidTests := true, laidLooks := .later }
def FnExactCountWordsUptoCardSaid : Prop := Claim7.holds Tryz.pinned (.plain (OpenSpec.upto fnExactCountWordsSpec)) fnExactCountWordsUptoCard

/-- THE SECOND FORM's CARD OF 'laws.FnExactIsEmptyExpr'. -/
def fnExactIsEmptyExprUptoCard : Claim7 := { stood := { row := fnExactIsEmptyExprUptoRow, standIns := [], harness := (true, "c0e5eb12dfe3fc4bd7c549e9df75c7994ce45842124221c577381dec16a35d66"), looks := false }, kinds := [], alts := [], laidByText := true, laidKinds := [.data, .data, .data], laidTests := true, laidLooks := .later }
def FnExactIsEmptyExprUptoCardSaid : Prop := Claim7.holds Tryz.pinned (.plain (OpenSpec.upto fnExactIsEmptyExprSpec)) fnExactIsEmptyExprUptoCard

/-- THE SECOND FORM's CARD OF 'laws.FnExactAtMost'. -/
def fnExactAtMostUptoCard : Claim7 := { stood := { row := fnExactAtMostUptoRow, standIns := [], harness := (true, "c0e5eb12dfe3fc4bd7c549e9df75c7994ce45842124221c577381dec16a35d66"), looks := false }, kinds := [], alts := [], laidByText := true, laidKinds := [.data, .data, .data], laidTests := true, laidLooks := .later }
def FnExactAtMostUptoCardSaid : Prop := Claim7.holds Tryz.pinned (.plain (OpenSpec.upto fnExactAtMostSpec)) fnExactAtMostUptoCard

/-- THE SECOND FORM's CARD OF 'laws.FnExactLengthsOf'. -/
def fnExactLengthsOfUptoCard : Claim7 := { stood := { row := fnExactLengthsOfUptoRow, standIns := [], harness := (true, "c0e5eb12dfe3fc4bd7c549e9df75c7994ce45842124221c577381dec16a35d66"), looks := false }, kinds := [], alts := [], laidByText := true, laidKinds := [.data, .data, .data], laidTests := true, laidLooks := .later }
def FnExactLengthsOfUptoCardSaid : Prop := Claim7.holds Tryz.pinned (.plain (OpenSpec.upto fnExactLengthsOfSpec)) fnExactLengthsOfUptoCard

/-- THE SECOND FORM's CARD OF 'laws.FnExactEqualExprs'. -/
def fnExactEqualExprsUptoCard : Claim7 := { stood := { row := fnExactEqualExprsUptoRow, standIns := [], harness := (true, "c0e5eb12dfe3fc4bd7c549e9df75c7994ce45842124221c577381dec16a35d66"), looks := false }, kinds := [], alts := [], laidByText := true, laidKinds := [.data, .data, .data], laidTests := true, laidLooks := .later }
def FnExactEqualExprsUptoCardSaid : Prop := Claim7.holds Tryz.pinned (.plain (OpenSpec.upto fnExactEqualExprsSpec)) fnExactEqualExprsUptoCard

/-- THE SECOND FORM's CARD OF 'laws.FnExactAutomatonOf'. -/
def fnExactAutomatonOfUptoCard : Claim7 := { stood := { row := fnExactAutomatonOfUptoRow, standIns := [], harness := (true, "c0e5eb12dfe3fc4bd7c549e9df75c7994ce45842124221c577381dec16a35d66"), looks := false }, kinds := [], alts := [], laidByText := true, laidKinds := [.data, .data, .data], laidTests := true, laidLooks := .later }
def FnExactAutomatonOfUptoCardSaid : Prop := Claim7.holds Tryz.pinned (.plain (OpenSpec.upto fnExactAutomatonOfSpec)) fnExactAutomatonOfUptoCard

/-- THE SECOND FORM's CARD OF 'laws.FnExactWordsUpTo'. -/
def fnExactWordsUpToUptoCard : Claim7 := { stood := { row := fnExactWordsUpToUptoRow, standIns := [], harness := (true, "c0e5eb12dfe3fc4bd7c549e9df75c7994ce45842124221c577381dec16a35d66"), looks := false }, kinds := [], alts := [], laidByText := true, laidKinds := [.data, .data, .data], laidTests := true, laidLooks := .later }
def FnExactWordsUpToUptoCardSaid : Prop := Claim7.holds Tryz.pinned (.plain (OpenSpec.upto fnExactWordsUpToSpec)) fnExactWordsUpToUptoCard
end Rows
end Go.Proofs.YtjlmdhoajfdkbaaGreatDoor
