/-
  DERIVED. GIVEN WITH THE SEED: THE CARDS: each row of YtekggbmpogmlcaaDoorRows.lean that lists a variable, with what it lists TIED to the program's text (the seventh form; the later family's looks); each row that meets fmt, with fmt's text TOLD by the authors' own Lean function (tested against real Go, not proved from fmt's source: count such statements apart). THE CARD IS WHAT COUNTS. Prove the row's statement (the work); the ties are given (YtekggbmpogmlcaaDoorTie.lean); close each card by the builder's one call (the guide's Derived/Test/ToyasCard.lean, 'card_holds'). Laid BY PROGRAM, IN A SANDBOX (cutbox-door.mjs). By AI agents, Wed Nov 11 2026. No macro, syntax, notation, axiom, sorry.
-/
import Derived.Test.YtekggbmpogmlcaaDoorRows
import GoSem.ClaimSeven
namespace Go.Proofs.YtekggbmpogmlcaaDoor
namespace Rows

/-- THE TIED CARD OF 'laws.FnKinds'. -/
def fnKindsCard : Claim7 := { stood := { row := fnKindsRow, standIns := [], harness := (true, "8e182656bc5404043428a72b2e2763b3236e300fcab541d1c8dbd8a2d4cdc86e"), looks := false }, kinds := [], alts := [], laidByText := true, laidKinds := [.data, .data, .data], laidTests := true, laidLooks := .later }
def FnKindsCardSaid : Prop := Claim7.holds Tryd.pinned (.plain (OpenSpec.ofChange fnKindsSpec)) fnKindsCard

/-- THE SECOND FORM's CARD OF 'laws.FnKinds'. -/
def fnKindsUptoCard : Claim7 := { stood := { row := fnKindsUptoRow, standIns := [], harness := (true, "8e182656bc5404043428a72b2e2763b3236e300fcab541d1c8dbd8a2d4cdc86e"), looks := false }, kinds := [], alts := [], laidByText := true, laidKinds := [.data, .data, .data], laidTests := true, laidLooks := .later }
def FnKindsUptoCardSaid : Prop := Claim7.holds Tryd.pinned (.plain (OpenSpec.upto fnKindsSpec)) fnKindsUptoCard
end Rows
end Go.Proofs.YtekggbmpogmlcaaDoor
