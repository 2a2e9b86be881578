/-
  DERIVED. GIVEN WITH THE SEED: THE CARDS: each row of YtbbiienkghbdbaaDoorRows.lean that lists a variable, with what it lists TIED to the program's text (the seventh form; the later family's looks); each row that meets fmt, with fmt's text TOLD by the authors' own Lean function (tested against real Go, not proved from fmt's source: count such statements apart). THE CARD IS WHAT COUNTS. Prove the row's statement (the work); the ties are given (YtbbiienkghbdbaaDoorTie.lean); close each card by the builder's one call (the guide's Derived/Test/ToyasCard.lean, 'card_holds'). Laid BY PROGRAM, IN A SANDBOX (cutbox-door.mjs). By AI agents, Wed Nov 11 2026. No macro, syntax, notation, axiom, sorry.
-/
import Derived.Test.YtbbiienkghbdbaaDoorRows
import GoSem.ClaimSeven
namespace Go.Proofs.YtbbiienkghbdbaaDoor
namespace Rows

/-- THE TIED CARD OF 'laws.FnExactMailText'. -/
def fnExactMailTextCard : Claim7 := { stood := { row := fnExactMailTextRow, standIns := [], harness := (true, "af473afa9b80094bbd67e8df36a43414cbec0bc14bb1835e8989ee168fcd4f4d"), looks := false }, kinds := [], alts := [], laidByText := true, laidKinds := [.data, .data, .data], laidTests := true, laidLooks := .later }
def FnExactMailTextCardSaid : Prop := Claim7.holds Tryd.pinned (.plain (OpenSpec.ofChange fnExactMailTextSpec)) fnExactMailTextCard

/-- THE TIED CARD OF 'laws.FnMails'. -/
def fnMailsCard : Claim7 := { stood := { row := fnMailsRow, standIns := [], harness := (true, "af473afa9b80094bbd67e8df36a43414cbec0bc14bb1835e8989ee168fcd4f4d"), looks := false }, kinds := [], alts := [], laidByText := true, laidKinds := [.data, .data, .data], laidTests := true, laidLooks := .later }
def FnMailsCardSaid : Prop := Claim7.holds Tryd.pinned (.plain (OpenSpec.ofChange fnMailsSpec)) fnMailsCard

/-- THE SECOND FORM's CARD OF 'laws.FnExactMailText'. -/
def fnExactMailTextUptoCard : Claim7 := { stood := { row := fnExactMailTextUptoRow, standIns := [], harness := (true, "af473afa9b80094bbd67e8df36a43414cbec0bc14bb1835e8989ee168fcd4f4d"), looks := false }, kinds := [], alts := [], laidByText := true, laidKinds := [.data, .data, .data], laidTests := true, laidLooks := .later }
def FnExactMailTextUptoCardSaid : Prop := Claim7.holds Tryd.pinned (.plain (OpenSpec.upto fnExactMailTextSpec)) fnExactMailTextUptoCard

/-- THE SECOND FORM's CARD OF 'laws.FnMails'. -/
def fnMailsUptoCard : Claim7 := { stood := { row := fnMailsUptoRow, standIns := [], harness := (true, "af473afa9b80094bbd67e8df36a43414cbec0bc14bb1835e8989ee168fcd4f4d"), looks := false }, kinds := [], alts := [], laidByText := true, laidKinds := [.data, .data, .data], laidTests := true, laidLooks := .later }
def FnMailsUptoCardSaid : Prop := Claim7.holds Tryd.pinned (.plain (OpenSpec.upto fnMailsSpec)) fnMailsUptoCard
end Rows
end Go.Proofs.YtbbiienkghbdbaaDoor
