/-
  DERIVED. GIVEN WITH THE SEED: THE CARDS: each row of YtopjomkjdmcljaaDoorRows.lean that lists a variable, with what it lists TIED to the program's text (the seventh form; the later family's looks); each row that meets fmt, with fmt's text TOLD by the authors' own Lean function (tested against real Go, not proved from fmt's source: count such statements apart). THE CARD IS WHAT COUNTS. Prove the row's statement (the work); the ties are given (YtopjomkjdmcljaaDoorTie.lean); close each card by the builder's one call (the guide's Derived/Test/ToyasCard.lean, 'card_holds'). Laid BY PROGRAM, IN A SANDBOX (cutbox-door.mjs). By AI agents, Wed Nov 11 2026. No macro, syntax, notation, axiom, sorry.
-/
import Derived.Test.YtopjomkjdmcljaaDoorRows
import GoSem.ClaimSeven
namespace Go.Proofs.YtopjomkjdmcljaaDoor
namespace Rows

/-- THE TIED CARD OF 'laws.FnExactGaugeText'. -/
def fnExactGaugeTextCard : Claim7 := { stood := { row := fnExactGaugeTextRow, standIns := [], harness := (true, "9ba5103d12cebad7eb2d3f67377591a156bac285a39bc83d1bb1d8f50a7801e5"), looks := false }, kinds := [], alts := [], laidByText := true, laidKinds := [.data, .data, .data, .data, .pinned], laidTests := true, laidLooks := .later }
def FnExactGaugeTextCardSaid : Prop := Claim7.holds Tryd.pinned (.plain (OpenSpec.ofChange fnExactGaugeTextSpec)) fnExactGaugeTextCard

/-- THE TIED CARD OF 'laws.FnExactCombText'. -/
def fnExactCombTextCard : Claim7 := { stood := { row := fnExactCombTextRow, standIns := [], harness := (true, "9ba5103d12cebad7eb2d3f67377591a156bac285a39bc83d1bb1d8f50a7801e5"), looks := false }, kinds := [], alts := [], laidByText := true, laidKinds := [.data, .data, .data, .data, .pinned], laidTests := true, laidLooks := .later }
def FnExactCombTextCardSaid : Prop := Claim7.holds Tryd.pinned (.plain (OpenSpec.ofChange fnExactCombTextSpec)) fnExactCombTextCard

/-- THE TIED CARD OF 'laws.FnCombs'. -/
def fnCombsCard : Claim7 := { stood := { row := fnCombsRow, standIns := [], harness := (true, "9ba5103d12cebad7eb2d3f67377591a156bac285a39bc83d1bb1d8f50a7801e5"), looks := false }, kinds := [], alts := [], laidByText := true, laidKinds := [.data, .data, .data, .data, .pinned], laidTests := true, laidLooks := .later }
def FnCombsCardSaid : Prop := Claim7.holds Tryd.pinned (.plain (OpenSpec.ofChange fnCombsSpec)) fnCombsCard

/-- THE SECOND FORM's CARD OF 'laws.FnExactGaugeText'. -/
def fnExactGaugeTextUptoCard : Claim7 := { stood := { row := fnExactGaugeTextUptoRow, standIns := [], harness := (true, "9ba5103d12cebad7eb2d3f67377591a156bac285a39bc83d1bb1d8f50a7801e5"), looks := false }, kinds := [], alts := [], laidByText := true, laidKinds := [.data, .data, .data, .data, .pinned], laidTests := true, laidLooks := .later }
def FnExactGaugeTextUptoCardSaid : Prop := Claim7.holds Tryd.pinned (.plain (OpenSpec.upto fnExactGaugeTextSpec)) fnExactGaugeTextUptoCard

/-- THE SECOND FORM's CARD OF 'laws.FnExactCombText'. -/
def fnExactCombTextUptoCard : Claim7 := { stood := { row := fnExactCombTextUptoRow, standIns := [], harness := (true, "9ba5103d12cebad7eb2d3f67377591a156bac285a39bc83d1bb1d8f50a7801e5"), looks := false }, kinds := [], alts := [], laidByText := true, laidKinds := [.data, .data, .data, .data, .pinned], laidTests := true, laidLooks := .later }
def FnExactCombTextUptoCardSaid : Prop := Claim7.holds Tryd.pinned (.plain (OpenSpec.upto fnExactCombTextSpec)) fnExactCombTextUptoCard

/-- THE SECOND FORM's CARD OF 'laws.FnCombs'. -/
def fnCombsUptoCard : Claim7 := { stood := { row := fnCombsUptoRow, standIns := [], harness := (true, "9ba5103d12cebad7eb2d3f67377591a156bac285a39bc83d1bb1d8f50a7801e5"), looks := false }, kinds := [], alts := [], laidByText := true, laidKinds := [.data, .data, .data, .data, .pinned], laidTests := true, laidLooks := .later }
def FnCombsUptoCardSaid : Prop := Claim7.holds Tryd.pinned (.plain (OpenSpec.upto fnCombsSpec)) fnCombsUptoCard
end Rows
end Go.Proofs.YtopjomkjdmcljaaDoor
