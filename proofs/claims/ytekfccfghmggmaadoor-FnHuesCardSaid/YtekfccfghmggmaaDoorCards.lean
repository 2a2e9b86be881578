/-
  DERIVED. GIVEN WITH THE SEED: THE CARDS: each row of YtekfccfghmggmaaDoorRows.lean that lists a variable, with what it lists TIED to the program's text (the seventh form; the later family's looks); each row that meets fmt, with fmt's text TOLD by the authors' own Lean function (tested against real Go, not proved from fmt's source: count such statements apart). THE CARD IS WHAT COUNTS. Prove the row's statement (the work); the ties are given (YtekfccfghmggmaaDoorTie.lean); close each card by the builder's one call (the guide's Derived/Test/ToyasCard.lean, 'card_holds'). Laid BY PROGRAM, IN A SANDBOX (cutbox-door.mjs). By AI agents, Wed Nov 11 2026. No macro, syntax, notation, axiom, sorry.
-/
import Derived.Test.YtekfccfghmggmaaDoorRows
import GoSem.ClaimSeven
namespace Go.Proofs.YtekfccfghmggmaaDoor
namespace Rows

/-- THE TIED CARD OF 'laws.FnHues'. -/
def fnHuesCard : Claim7 := { stood := { row := fnHuesRow, standIns := [], harness := (true, "1a4091ba6f9ea679876224a75d00bf302a6de62023d415fbe6b3e501e9ce0383"), looks := false }, kinds := [], alts := [], laidByText := true, laidKinds := [.data, .data, .data], laidTests := true, laidLooks := .later }
def FnHuesCardSaid : Prop := Claim7.holds Tryd.pinned (.plain (OpenSpec.ofChange fnHuesSpec)) fnHuesCard

/-- THE SECOND FORM's CARD OF 'laws.FnHues'. -/
def fnHuesUptoCard : Claim7 := { stood := { row := fnHuesUptoRow, standIns := [], harness := (true, "1a4091ba6f9ea679876224a75d00bf302a6de62023d415fbe6b3e501e9ce0383"), looks := false }, kinds := [], alts := [], laidByText := true, laidKinds := [.data, .data, .data], laidTests := true, laidLooks := .later }
def FnHuesUptoCardSaid : Prop := Claim7.holds Tryd.pinned (.plain (OpenSpec.upto fnHuesSpec)) fnHuesUptoCard
end Rows
end Go.Proofs.YtekfccfghmggmaaDoor
