/-
  DERIVED. GIVEN WITH THE SEED: THE CARDS: each row of YtkganlojknhajaaDoorRows.lean that lists a variable, with what it lists TIED to the program's text (the seventh form; the later family's looks); each row that meets fmt, with fmt's text TOLD by the authors' own Lean function (tested against real Go, not proved from fmt's source: count such statements apart). THE CARD IS WHAT COUNTS. Prove the row's statement (the work); the ties are given (YtkganlojknhajaaDoorTie.lean); close each card by the builder's one call (the guide's Derived/Test/ToyasCard.lean, 'card_holds'). Laid BY PROGRAM, IN A SANDBOX (cutbox-door.mjs). By AI agents, Wed Nov 11 2026. No macro, syntax, notation, axiom, sorry.
-/
import Derived.Test.YtkganlojknhajaaDoorRows
import GoSem.ClaimSeven
namespace Go.Proofs.YtkganlojknhajaaDoor
namespace Rows

/-- THE TIED CARD OF 'laws.FnExactRateText'. -/
def fnExactRateTextCard : Claim7 := { stood := { row := fnExactRateTextRow, standIns := [], harness := (true, "6f426eb3be527fa20e32834c985cf0a6607568a0ba7bd885c4dba59714d9b14f"), looks := false }, kinds := [], alts := [], laidByText := true, laidKinds := [.data, .data, .data], laidTests := true, laidLooks := .later }
def FnExactRateTextCardSaid : Prop := Claim7.holds Tryd.pinned (.plain (OpenSpec.ofChange fnExactRateTextSpec)) fnExactRateTextCard

/-- THE TIED CARD OF 'laws.FnRates'. -/
def fnRatesCard : Claim7 := { stood := { row := fnRatesRow, standIns := [], harness := (true, "6f426eb3be527fa20e32834c985cf0a6607568a0ba7bd885c4dba59714d9b14f"), looks := false }, kinds := [], alts := [], laidByText := true, laidKinds := [.data, .data, .data], laidTests := true, laidLooks := .later }
def FnRatesCardSaid : Prop := Claim7.holds Tryd.pinned (.plain (OpenSpec.ofChange fnRatesSpec)) fnRatesCard

/-- THE SECOND FORM's CARD OF 'laws.FnExactRateText'. -/
def fnExactRateTextUptoCard : Claim7 := { stood := { row := fnExactRateTextUptoRow, standIns := [], harness := (true, "6f426eb3be527fa20e32834c985cf0a6607568a0ba7bd885c4dba59714d9b14f"), looks := false }, kinds := [], alts := [], laidByText := true, laidKinds := [.data, .data, .data], laidTests := true, laidLooks := .later }
def FnExactRateTextUptoCardSaid : Prop := Claim7.holds Tryd.pinned (.plain (OpenSpec.upto fnExactRateTextSpec)) fnExactRateTextUptoCard

/-- THE SECOND FORM's CARD OF 'laws.FnRates'. -/
def fnRatesUptoCard : Claim7 := { stood := { row := fnRatesUptoRow, standIns := [], harness := (true, "6f426eb3be527fa20e32834c985cf0a6607568a0ba7bd885c4dba59714d9b14f"), looks := false }, kinds := [], alts := [], laidByText := true, laidKinds := [.data, .data, .data], laidTests := true, laidLooks := .later }
def FnRatesUptoCardSaid : Prop := Claim7.holds Tryd.pinned (.plain (OpenSpec.upto fnRatesSpec)) fnRatesUptoCard
end Rows
end Go.Proofs.YtkganlojknhajaaDoor
