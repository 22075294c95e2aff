/-
  DERIVED. GIVEN WITH THE SEED: THE CARDS: each row of YtfopdcdbelaapaaGreatDoorRows.lean that lists a variable, with what it lists TIED to the program's text (the seventh form; the later family's looks); each row that meets fmt, with fmt's text TOLD by the authors' own Lean function (tested against real Go, not proved from fmt's source: count such statements apart). THE CARD IS WHAT COUNTS. Prove the row's statement (the work); the ties are given (YtfopdcdbelaapaaGreatDoorTie.lean); close each card by the builder's one call (the guide's Derived/Test/ToyasCard.lean, 'card_holds'). Laid BY PROGRAM, IN A SANDBOX (cutbox-door.mjs). By AI agents, Wed Nov 11 2026. No macro, syntax, notation, axiom, sorry.
-/
import Derived.Test.YtfopdcdbelaapaaGreatDoorRows
import GoSem.ClaimSeven
namespace Go.Proofs.YtfopdcdbelaapaaGreatDoor
namespace Rows

/-- THE TIED CARD OF 'laws.FnExactDeriveWord'. -/
def fnExactDeriveWordCard : Claim7 := { stood := { row := fnExactDeriveWordRow, standIns := [], harness := (true, "caa01f6cf933149cd381b7c521b95b91f74628c8dc98b5068f551f44089efa8b"), looks := false }, kinds := [], alts := [], laidByText := true, laidKinds := [.data, .data, .data], laidTests := true, laidLooks := .later }
def FnExactDeriveWordCardSaid : Prop := Claim7.holds Tryz.pinned (.plain (OpenSpec.ofChange fnExactDeriveWordSpec)) fnExactDeriveWordCard

/-- THE TIED CARD OF 'laws.FnExactEqualExprs'. -/
def fnExactEqualExprsCard : Claim7 := { stood := { row := fnExactEqualExprsRow, standIns := [], harness := (true, "caa01f6cf933149cd381b7c521b95b91f74628c8dc98b5068f551f44089efa8b"), looks := false }, kinds := [], alts := [], laidByText := true, laidKinds := [.data, .data, .data], laidTests := true, laidLooks := .later }
def FnExactEqualExprsCardSaid : Prop := Claim7.holds Tryz.pinned (.plain (OpenSpec.ofChange fnExactEqualExprsSpec)) fnExactEqualExprsCard

/-- THE TIED CARD OF 'laws.FnExactCheckBisim'. -/
def fnExactCheckBisimCard : Claim7 := { stood := { row := fnExactCheckBisimRow, standIns := [], harness := (true, "caa01f6cf933149cd381b7c521b95b91f74628c8dc98b5068f551f44089efa8b"), looks := false }, kinds := [], alts := [], laidByText := true, laidKinds := [.data, .data, .data], laidTests := true, laidLooks := .later }
def FnExactCheckBisimCardSaid : Prop := Claim7.holds Tryz.pinned (.plain (OpenSpec.ofChange fnExactCheckBisimSpec)) fnExactCheckBisimCard

/-- THE TIED CARD OF 'laws.FnExactWordsUpTo'. -/
def fnExactWordsUpToCard : Claim7 := { stood := { row := fnExactWordsUpToRow, standIns := [], harness := (true, "caa01f6cf933149cd381b7c521b95b91f74628c8dc98b5068f551f44089efa8b"), looks := false }, kinds := [], alts := [], laidByText := true, laidKinds := [.data, .data, .data], laidTests := true, laidLooks := .later }
def FnExactWordsUpToCardSaid : Prop := Claim7.holds Tryz.pinned (.plain (OpenSpec.ofChange fnExactWordsUpToSpec)) fnExactWordsUpToCard

/-- THE TIED CARD OF 'laws.FnExactFindBisim'. -/
def fnExactFindBisimCard : Claim7 := { stood := { row := fnExactFindBisimRow, standIns := [], harness := (true, "caa01f6cf933149cd381b7c521b95b91f74628c8dc98b5068f551f44089efa8b"), looks := false }, kinds := [], alts := [], laidByText := true, laidKinds := [.data, .data, .data], laidTests := true, laidLooks := .later }
def FnExactFindBisimCardSaid : Prop := Claim7.holds Tryz.pinned (.plain (OpenSpec.ofChange fnExactFindBisimSpec)) fnExactFindBisimCard

/-- THE TIED CARD OF 'laws.FnExactIsConditionLike'. -/
def fnExactIsConditionLikeCard : Claim7 := { stood := { row := fnExactIsConditionLikeRow, standIns := [], harness := (true, "caa01f6cf933149cd381b7c521b95b91f74628c8dc98b5068f551f44089efa8b"), looks := false }, kinds := [], alts := [], laidByText := true, laidKinds := [.data, .data, .data], laidTests := true, laidLooks := .later }
def FnExactIsConditionLikeCardSaid : Prop := Claim7.holds Tryz.pinned (.plain (OpenSpec.ofChange fnExactIsConditionLikeSpec)) fnExactIsConditionLikeCard

/-- THE TIED CARD OF 'laws.FnReplace'. -/
def fnReplaceCard : Claim7 := { stood := { row := fnReplaceRow, standIns := [], harness := (true, "caa01f6cf933149cd381b7c521b95b91f74628c8dc98b5068f551f44089efa8b"), looks := false }, kinds := [], alts := [], laidByText := true, laidKinds := [.data, .data, .data], laidTests := true, laidLooks := .later }
def FnReplaceCardSaid : Prop := Claim7.holds Tryz.pinned (.plain (OpenSpec.ofChange fnReplaceSpec)) fnReplaceCard

/-- THE TIED CARD OF 'laws.FnWords'. -/
def fnWordsCard : Claim7 := { stood := { row := fnWordsRow, standIns := [], harness := (true, "caa01f6cf933149cd381b7c521b95b91f74628c8dc98b5068f551f44089efa8b"), looks := false }, kinds := [], alts := [], laidByText := true, laidKinds := [.data, .data, .data], laidTests := true, laidLooks := .later }
def FnWordsCardSaid : Prop := Claim7.holds Tryz.pinned (.plain (OpenSpec.ofChange fnWordsSpec)) fnWordsCard

/-- THE TIED CARD OF 'laws.FnInduction'. -/
def fnInductionCard : Claim7 := { stood := { row := fnInductionRow, standIns := [], harness := (true, "caa01f6cf933149cd381b7c521b95b91f74628c8dc98b5068f551f44089efa8b"), looks := false }, kinds := [], alts := [], laidByText := true, laidKinds := [.data, .data, .data], laidTests := true, laidLooks := .later }
def FnInductionCardSaid : Prop := Claim7.holds Tryz.pinned (.plain (OpenSpec.ofChange fnInductionSpec)) fnInductionCard

/-- THE TIED CARD OF 'laws.FnKleene'. -/
def fnKleeneCard : Claim7 := { stood := { row := fnKleeneRow, standIns := [], harness := (true, "caa01f6cf933149cd381b7c521b95b91f74628c8dc98b5068f551f44089efa8b"), looks := false }, kinds := [], alts := [], laidByText := true, laidKinds := [.data, .data, .data], laidTests := true, laidLooks := .later }
def FnKleeneCardSaid : Prop := Claim7.holds Tryz.pinned (.plain (OpenSpec.ofChange fnKleeneSpec)) fnKleeneCard

/-- THE TIED CARD OF 'laws.FnOrder'. -/
def fnOrderCard : Claim7 := { stood := { row := fnOrderRow, standIns := [], harness := (true, "caa01f6cf933149cd381b7c521b95b91f74628c8dc98b5068f551f44089efa8b"), looks := false }, kinds := [], alts := [], laidByText := true, laidKinds := [.data, .data, .data], laidTests := true, laidLooks := .later }
def FnOrderCardSaid : Prop := Claim7.holds Tryz.pinned (.plain (OpenSpec.ofChange fnOrderSpec)) fnOrderCard

/-- THE SECOND FORM's CARD OF 'laws.FnExactDeriveWord'. -/
def fnExactDeriveWordUptoCard : Claim7 := { stood := { row := fnExactDeriveWordUptoRow, standIns := [], harness := (true, "caa01f6cf933149cd381b7c521b95b91f74628c8dc98b5068f551f44089efa8b"), looks := false }, kinds := [], alts := [], laidByText := true, laidKinds := [.data, .data, .data], laidTests := true, laidLooks := .later }
def FnExactDeriveWordUptoCardSaid : Prop := Claim7.holds Tryz.pinned (.plain (OpenSpec.upto fnExactDeriveWordSpec)) fnExactDeriveWordUptoCard

/-- THE SECOND FORM's CARD OF 'laws.FnExactEqualExprs'. -/
def fnExactEqualExprsUptoCard : Claim7 := { stood := { row := fnExactEqualExprsUptoRow, standIns := [], harness := (true, "caa01f6cf933149cd381b7c521b95b91f74628c8dc98b5068f551f44089efa8b"), looks := false }, kinds := [], alts := [], laidByText := true, laidKinds := [.data, .data, .data], laidTests := true, laidLooks := .later }
def FnExactEqualExprsUptoCardSaid : Prop := Claim7.holds Tryz.pinned (.plain (OpenSpec.upto fnExactEqualExprsSpec)) fnExactEqualExprsUptoCard

/-- THE SECOND FORM's CARD OF 'laws.FnExactCheckBisim'. -/
def fnExactCheckBisimUptoCard : Claim7 := { stood := { row := fnExactCheckBisimUptoRow, standIns := [], harness := (true, "caa01f6cf933149cd381b7c521b95b91f74628c8dc98b5068f551f44089efa8b"), looks := false }, kinds := [], alts := [], laidByText := true, laidKinds := [.data, .data, .data], laidTests := true, laidLooks := .later }
def FnExactCheckBisimUptoCardSaid : Prop := Claim7.holds Tryz.pinned (.plain (OpenSpec.upto fnExactCheckBisimSpec)) fnExactCheckBisimUptoCard

/-- THE SECOND FORM's CARD OF 'laws.FnExactWordsUpTo'. -/
def fnExactWordsUpToUptoCard : Claim7 := { stood := { row := fnExactWordsUpToUptoRow, standIns := [], harness := (true, "caa01f6cf933149cd381b7c521b95b91f74628c8dc98b5068f551f44089efa8b"), looks := false }, kinds := [], alts := [], laidByText := true, laidKinds := [.data, .data, .data], laidTests := true, laidLooks := .later }
def FnExactWordsUpToUptoCardSaid : Prop := Claim7.holds Tryz.pinned (.plain (OpenSpec.upto fnExactWordsUpToSpec)) fnExactWordsUpToUptoCard

/-- THE SECOND FORM's CARD OF 'laws.FnExactFindBisim'. -/
def fnExactFindBisimUptoCard : Claim7 := { stood := { row := fnExactFindBisimUptoRow, standIns := [], harness := (true, "caa01f6cf933149cd381b7c521b95b91f74628c8dc98b5068f551f44089efa8b"), looks := false }, kinds := [], alts := [], laidByText := true, laidKinds := [.data, .data, .data], laidTests := true, laidLooks := .later }
def FnExactFindBisimUptoCardSaid : Prop := Claim7.holds Tryz.pinned (.plain (OpenSpec.upto fnExactFindBisimSpec)) fnExactFindBisimUptoCard

/-- THE SECOND FORM's CARD OF 'laws.FnExactIsConditionLike'. -/
def fnExactIsConditionLikeUptoCard : Claim7 := { stood := { row := fnExactIsConditionLikeUptoRow, standIns := [], harness := (true, "caa01f6cf933149cd381b7c521b95b91f74628c8dc98b5068f551f44089efa8b"), looks := false }, kinds := [], alts := [], laidByText := true, laidKinds := [.data, .data, .data], laidTests := true, laidLooks := .later }
def FnExactIsConditionLikeUptoCardSaid : Prop := Claim7.holds Tryz.pinned (.plain (OpenSpec.upto fnExactIsConditionLikeSpec)) fnExactIsConditionLikeUptoCard

/-- THE SECOND FORM's CARD OF 'laws.FnReplace'. -/
def fnReplaceUptoCard : Claim7 := { stood := { row := fnReplaceUptoRow, standIns := [], harness := (true, "caa01f6cf933149cd381b7c521b95b91f74628c8dc98b5068f551f44089efa8b"), looks := false }, kinds := [], alts := [], laidByText := true, laidKinds := [.data, .data, .data], laidTests := true, laidLooks := .later }
def FnReplaceUptoCardSaid : Prop := Claim7.holds Tryz.pinned (.plain (OpenSpec.upto fnReplaceSpec)) fnReplaceUptoCard

/-- THE SECOND FORM's CARD OF 'laws.FnWords'. -/
def fnWordsUptoCard : Claim7 := { stood := { row := fnWordsUptoRow, standIns := [], harness := (true, "caa01f6cf933149cd381b7c521b95b91f74628c8dc98b5068f551f44089efa8b"), looks := false }, kinds := [], alts := [], laidByText := true, laidKinds := [.data, .data, .data], laidTests := true, laidLooks := .later }
def FnWordsUptoCardSaid : Prop := Claim7.holds Tryz.pinned (.plain (OpenSpec.upto fnWordsSpec)) fnWordsUptoCard

/-- THE SECOND FORM's CARD OF 'laws.FnInduction'. -/
def fnInductionUptoCard : Claim7 := { stood := { row := fnInductionUptoRow, standIns := [], harness := (true, "caa01f6cf933149cd381b7c521b95b91f74628c8dc98b5068f551f44089efa8b"), looks := false }, kinds := [], alts := [], laidByText := true, laidKinds := [.data, .data, .data], laidTests := true, laidLooks := .later }
def FnInductionUptoCardSaid : Prop := Claim7.holds Tryz.pinned (.plain (OpenSpec.upto fnInductionSpec)) fnInductionUptoCard

/-- THE SECOND FORM's CARD OF 'laws.FnKleene'. -/
def fnKleeneUptoCard : Claim7 := { stood := { row := fnKleeneUptoRow, standIns := [], harness := (true, "caa01f6cf933149cd381b7c521b95b91f74628c8dc98b5068f551f44089efa8b"), looks := false }, kinds := [], alts := [], laidByText := true, laidKinds := [.data, .data, .data], laidTests := true, laidLooks := .later }
def FnKleeneUptoCardSaid : Prop := Claim7.holds Tryz.pinned (.plain (OpenSpec.upto fnKleeneSpec)) fnKleeneUptoCard

/-- THE SECOND FORM's CARD OF 'laws.FnOrder'. -/
def fnOrderUptoCard : Claim7 := { stood := { row := fnOrderUptoRow, standIns := [], harness := (true, "caa01f6cf933149cd381b7c521b95b91f74628c8dc98b5068f551f44089efa8b"), looks := false }, kinds := [], alts := [], laidByText := true, laidKinds := [.data, .data, .data], laidTests := true, laidLooks := .later }
def FnOrderUptoCardSaid : Prop := Claim7.holds Tryz.pinned (.plain (OpenSpec.upto fnOrderSpec)) fnOrderUptoCard
end Rows
end Go.Proofs.YtfopdcdbelaapaaGreatDoor
