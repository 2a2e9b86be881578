/-
  DERIVED. GIVEN WITH THE SEED: THE CARDS: each row of YtmgpdenofkloeaaDoorRows.lean that lists a variable, with what it lists TIED to the program's text (the seventh form; the later family's looks); each row that meets fmt, with fmt's text TOLD by the authors' own Lean function (tested against real Go, not proved from fmt's source: count such statements apart). THE CARD IS WHAT COUNTS. Prove the row's statement (the work); the ties are given (YtmgpdenofkloeaaDoorTie.lean); close each card by the builder's one call (the guide's Derived/Test/ToyasCard.lean, 'card_holds'). Laid BY PROGRAM, IN A SANDBOX (cutbox-door.mjs). By AI agents, Wed Nov 11 2026. No macro, syntax, notation, axiom, sorry.
-/
import Derived.Test.YtmgpdenofkloeaaDoorRows
import GoSem.ClaimSeven
namespace Go.Proofs.YtmgpdenofkloeaaDoor
namespace Rows

/-- THE TIED CARD OF 'laws.FnMails'. -/
def fnMailsCard : Claim7 := { stood := { row := fnMailsRow, standIns := [], harness := (true, "9bd771f83e7b6a52910b6e4838cf39f97503517b04af9655009a9e9f223f87cf"), looks := false }, kinds := [], alts := [], laidByText := true, laidKinds := [.data, .data, .data], laidTests := true, laidLooks := .later }
def FnMailsCardSaid : Prop := Claim7.holds Tryd.pinned (.plain (OpenSpec.ofChange fnMailsSpec)) fnMailsCard

/-- THE SECOND FORM's CARD OF 'laws.FnMails'. -/
def fnMailsUptoCard : Claim7 := { stood := { row := fnMailsUptoRow, standIns := [], harness := (true, "9bd771f83e7b6a52910b6e4838cf39f97503517b04af9655009a9e9f223f87cf"), looks := false }, kinds := [], alts := [], laidByText := true, laidKinds := [.data, .data, .data], laidTests := true, laidLooks := .later }
def FnMailsUptoCardSaid : Prop := Claim7.holds Tryd.pinned (.plain (OpenSpec.upto fnMailsSpec)) fnMailsUptoCard
end Rows
end Go.Proofs.YtmgpdenofkloeaaDoor
