/-
  DERIVED. GIVEN WITH THE SEED: THE CARDS: each row of YtahehcalmbmbpaaDoorRows.lean that lists a variable, with what it lists TIED to the program's text (the seventh form; the later family's looks); each row that meets fmt, with fmt's text TOLD by the authors' own Lean function (tested against real Go, not proved from fmt's source: count such statements apart). THE CARD IS WHAT COUNTS. Prove the row's statement (the work); the ties are given (YtahehcalmbmbpaaDoorTie.lean); close each card by the builder's one call (the guide's Derived/Test/ToyasCard.lean, 'card_holds'). Laid BY PROGRAM, IN A SANDBOX (cutbox-door.mjs). By AI agents, Wed Nov 11 2026. No macro, syntax, notation, axiom, sorry.
-/
import Derived.Test.YtahehcalmbmbpaaDoorRows
import GoSem.ClaimSeven
namespace Go.Proofs.YtahehcalmbmbpaaDoor
namespace Rows

/-- THE TIED CARD OF 'laws.FnExactWordText'. -/
def fnExactWordTextCard : Claim7 := { stood := { row := fnExactWordTextRow, standIns := [], harness := (true, "0a26003a32b23445dd4a8e8a8652d22400d4eeec8ec6dd7aaf3424c0815b3c56"), looks := false }, kinds := [], alts := [], laidByText := true, laidKinds := [.data, .data, .data], laidTests := true, laidLooks := .later }
def FnExactWordTextCardSaid : Prop := Claim7.holds Tryd.pinned (.plain (OpenSpec.ofChange fnExactWordTextSpec)) fnExactWordTextCard

/-- THE TIED CARD OF 'laws.FnExactExprText'. -/
def fnExactExprTextCard : Claim7 := { stood := { row := fnExactExprTextRow, standIns := [], harness := (true, "0a26003a32b23445dd4a8e8a8652d22400d4eeec8ec6dd7aaf3424c0815b3c56"), looks := false }, kinds := [], alts := [], laidByText := true, laidKinds := [.data, .data, .data], laidTests := true, laidLooks := .later }
def FnExactExprTextCardSaid : Prop := Claim7.holds Tryd.pinned (.plain (OpenSpec.ofChange fnExactExprTextSpec)) fnExactExprTextCard

/-- THE TIED CARD OF 'laws.FnExactAutomatonText'. -/
def fnExactAutomatonTextCard : Claim7 := { stood := { row := fnExactAutomatonTextRow, standIns := [], harness := (true, "0a26003a32b23445dd4a8e8a8652d22400d4eeec8ec6dd7aaf3424c0815b3c56"), looks := false }, kinds := [], alts := [], laidByText := true, laidKinds := [.data, .data, .data], laidTests := true, laidLooks := .later }
def FnExactAutomatonTextCardSaid : Prop := Claim7.holds Tryd.pinned (.plain (OpenSpec.ofChange fnExactAutomatonTextSpec)) fnExactAutomatonTextCard

/-- THE TIED CARD OF 'laws.FnExactBisimText'. -/
def fnExactBisimTextCard : Claim7 := { stood := { row := fnExactBisimTextRow, standIns := [], harness := (true, "0a26003a32b23445dd4a8e8a8652d22400d4eeec8ec6dd7aaf3424c0815b3c56"), looks := false }, kinds := [], alts := [], laidByText := true, laidKinds := [.data, .data, .data], laidTests := true, laidLooks := .later }
def FnExactBisimTextCardSaid : Prop := Claim7.holds Tryd.pinned (.plain (OpenSpec.ofChange fnExactBisimTextSpec)) fnExactBisimTextCard

/-- THE SECOND FORM's CARD OF 'laws.FnExactWordText'. -/
def fnExactWordTextUptoCard : Claim7 := { stood := { row := fnExactWordTextUptoRow, standIns := [], harness := (true, "0a26003a32b23445dd4a8e8a8652d22400d4eeec8ec6dd7aaf3424c0815b3c56"), looks := false }, kinds := [], alts := [], laidByText := true, laidKinds := [.data, .data, .data], laidTests := true, laidLooks := .later }
def FnExactWordTextUptoCardSaid : Prop := Claim7.holds Tryd.pinned (.plain (OpenSpec.upto fnExactWordTextSpec)) fnExactWordTextUptoCard

/-- THE SECOND FORM's CARD OF 'laws.FnExactExprText'. -/
def fnExactExprTextUptoCard : Claim7 := { stood := { row := fnExactExprTextUptoRow, standIns := [], harness := (true, "0a26003a32b23445dd4a8e8a8652d22400d4eeec8ec6dd7aaf3424c0815b3c56"), looks := false }, kinds := [], alts := [], laidByText := true, laidKinds := [.data, .data, .data], laidTests := true, laidLooks := .later }
def FnExactExprTextUptoCardSaid : Prop := Claim7.holds Tryd.pinned (.plain (OpenSpec.upto fnExactExprTextSpec)) fnExactExprTextUptoCard

/-- THE SECOND FORM's CARD OF 'laws.FnExactAutomatonText'. -/
def fnExactAutomatonTextUptoCard : Claim7 := { stood := { row := fnExactAutomatonTextUptoRow, standIns := [], harness := (true, "0a26003a32b23445dd4a8e8a8652d22400d4eeec8ec6dd7aaf3424c0815b3c56"), looks := false }, kinds := [], alts := [], laidByText := true, laidKinds := [.data, .data, .data], laidTests := true, laidLooks := .later }
def FnExactAutomatonTextUptoCardSaid : Prop := Claim7.holds Tryd.pinned (.plain (OpenSpec.upto fnExactAutomatonTextSpec)) fnExactAutomatonTextUptoCard

/-- THE SECOND FORM's CARD OF 'laws.FnExactBisimText'. -/
def fnExactBisimTextUptoCard : Claim7 := { stood := { row := fnExactBisimTextUptoRow, standIns := [], harness := (true, "0a26003a32b23445dd4a8e8a8652d22400d4eeec8ec6dd7aaf3424c0815b3c56"), looks := false }, kinds := [], alts := [], laidByText := true, laidKinds := [.data, .data, .data], laidTests := true, laidLooks := .later }
def FnExactBisimTextUptoCardSaid : Prop := Claim7.holds Tryd.pinned (.plain (OpenSpec.upto fnExactBisimTextSpec)) fnExactBisimTextUptoCard
end Rows
end Go.Proofs.YtahehcalmbmbpaaDoor
