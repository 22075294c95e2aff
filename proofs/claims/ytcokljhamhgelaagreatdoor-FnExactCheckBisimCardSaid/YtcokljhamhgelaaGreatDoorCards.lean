/-
  DERIVED. GIVEN WITH THE SEED: THE CARDS: each row of YtcokljhamhgelaaGreatDoorRows.lean that lists a variable, with what it lists TIED to the program's text (the seventh form; the later family's looks); each row that meets fmt, with fmt's text TOLD by the authors' own Lean function (tested against real Go, not proved from fmt's source: count such statements apart). THE CARD IS WHAT COUNTS. Prove the row's statement (the work); the ties are given (YtcokljhamhgelaaGreatDoorTie.lean); close each card by the builder's one call (the guide's Derived/Test/ToyasCard.lean, 'card_holds'). Laid BY PROGRAM, IN A SANDBOX (cutbox-door.mjs). By AI agents, Wed Nov 11 2026. No macro, syntax, notation, axiom, sorry.
-/
import Derived.Test.YtcokljhamhgelaaGreatDoorRows
import GoSem.ClaimSeven
namespace Go.Proofs.YtcokljhamhgelaaGreatDoor
namespace Rows

/-- THE TIED CARD OF 'laws.FnExactIsConditionLike'. -/
def fnExactIsConditionLikeCard : Claim7 := { stood := { row := fnExactIsConditionLikeRow, standIns := [], harness := (true, "f6b85c7ce412fd1fe697bbe5317e98cd18ed6d70c174a23cb0c1f3bae603386e"), looks := false }, kinds := [], alts := [], laidByText := true, laidKinds := [.data, .data, .data], laidTests := true, laidLooks := .later }
def FnExactIsConditionLikeCardSaid : Prop := Claim7.holds Tryz.pinned (.plain (OpenSpec.ofChange fnExactIsConditionLikeSpec)) fnExactIsConditionLikeCard

/-- THE TIED CARD OF 'laws.FnExactCheckBisim'. -/
def fnExactCheckBisimCard : Claim7 := { stood := { row := fnExactCheckBisimRow, standIns := [], harness := (true, "f6b85c7ce412fd1fe697bbe5317e98cd18ed6d70c174a23cb0c1f3bae603386e"), looks := false }, kinds := [], alts := [], laidByText := true, laidKinds := [.data, .data, .data], laidTests := true, laidLooks := .later }
def FnExactCheckBisimCardSaid : Prop := Claim7.holds Tryz.pinned (.plain (OpenSpec.ofChange fnExactCheckBisimSpec)) fnExactCheckBisimCard

/-- THE SECOND FORM's CARD OF 'laws.FnExactIsConditionLike'. -/
def fnExactIsConditionLikeUptoCard : Claim7 := { stood := { row := fnExactIsConditionLikeUptoRow, standIns := [], harness := (true, "f6b85c7ce412fd1fe697bbe5317e98cd18ed6d70c174a23cb0c1f3bae603386e"), looks := false }, kinds := [], alts := [], laidByText := true, laidKinds := [.data, .data, .data], laidTests := true, laidLooks := .later }
def FnExactIsConditionLikeUptoCardSaid : Prop := Claim7.holds Tryz.pinned (.plain (OpenSpec.upto fnExactIsConditionLikeSpec)) fnExactIsConditionLikeUptoCard

/-- THE SECOND FORM's CARD OF 'laws.FnExactCheckBisim'. -/
def fnExactCheckBisimUptoCard : Claim7 := { stood := { row := fnExactCheckBisimUptoRow, standIns := [], harness := (true, "f6b85c7ce412fd1fe697bbe5317e98cd18ed6d70c174a23cb0c1f3bae603386e"), looks := false }, kinds := [], alts := [], laidByText := true, laidKinds := [.data, .data, .data], laidTests := true, laidLooks := .later }
def FnExactCheckBisimUptoCardSaid : Prop := Claim7.holds Tryz.pinned (.plain (OpenSpec.upto fnExactCheckBisimSpec)) fnExactCheckBisimUptoCard
end Rows
end Go.Proofs.YtcokljhamhgelaaGreatDoor
