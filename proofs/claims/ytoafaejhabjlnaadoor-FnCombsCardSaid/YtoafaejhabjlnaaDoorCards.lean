/-
  DERIVED. GIVEN WITH THE SEED: THE CARDS: each row of YtoafaejhabjlnaaDoorRows.lean that lists a variable, with what it lists TIED to the program's text (the seventh form; the later family's looks); each row that meets fmt, with fmt's text TOLD by the authors' own Lean function (tested against real Go, not proved from fmt's source: count such statements apart). THE CARD IS WHAT COUNTS. Prove the row's statement (the work); the ties are given (YtoafaejhabjlnaaDoorTie.lean); close each card by the builder's one call (the guide's Derived/Test/ToyasCard.lean, 'card_holds'). Laid BY PROGRAM, IN A SANDBOX (cutbox-door.mjs). By AI agents, Wed Nov 11 2026. No macro, syntax, notation, axiom, sorry.
-/
import Derived.Test.YtoafaejhabjlnaaDoorRows
import GoSem.ClaimSeven
namespace Go.Proofs.YtoafaejhabjlnaaDoor
namespace Rows

/-- THE TIED CARD OF 'laws.FnCombs'. -/
def fnCombsCard : Claim7 := { stood := { row := fnCombsRow, standIns := [], harness := (true, "f422238fd8967d697b66f2b301a1ccd8ff86887afc8e286e14a3546c3f642015"), looks := false }, kinds := [], alts := [], laidByText := true, laidKinds := [.data, .data, .data, .data, .pinned], laidTests := true, laidLooks := .later }
def FnCombsCardSaid : Prop := Claim7.holds Tryd.pinned (.plain (OpenSpec.ofChange fnCombsSpec)) fnCombsCard

/-- THE SECOND FORM's CARD OF 'laws.FnCombs'. -/
def fnCombsUptoCard : Claim7 := { stood := { row := fnCombsUptoRow, standIns := [], harness := (true, "f422238fd8967d697b66f2b301a1ccd8ff86887afc8e286e14a3546c3f642015"), looks := false }, kinds := [], alts := [], laidByText := true, laidKinds := [.data, .data, .data, .data, .pinned], laidTests := true, laidLooks := .later }
def FnCombsUptoCardSaid : Prop := Claim7.holds Tryd.pinned (.plain (OpenSpec.upto fnCombsSpec)) fnCombsUptoCard
end Rows
end Go.Proofs.YtoafaejhabjlnaaDoor
