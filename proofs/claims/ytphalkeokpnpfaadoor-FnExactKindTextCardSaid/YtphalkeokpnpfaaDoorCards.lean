/-
  DERIVED. GIVEN WITH THE SEED: THE CARDS: each row of YtphalkeokpnpfaaDoorRows.lean that lists a variable, with what it lists TIED to the program's text (the seventh form; the later family's looks); each row that meets fmt, with fmt's text TOLD by the authors' own Lean function (tested against real Go, not proved from fmt's source: count such statements apart). THE CARD IS WHAT COUNTS. Prove the row's statement (the work); the ties are given (YtphalkeokpnpfaaDoorTie.lean); close each card by the builder's one call (the guide's Derived/Test/ToyasCard.lean, 'card_holds'). Laid BY PROGRAM, IN A SANDBOX (cutbox-door.mjs). By AI agents, Wed Nov 11 2026. No macro, syntax, notation, axiom, sorry.
-/
import Derived.Test.YtphalkeokpnpfaaDoorRows
import GoSem.ClaimSeven
namespace Go.Proofs.YtphalkeokpnpfaaDoor
namespace Rows

/-- THE TIED CARD OF 'laws.FnExactKindText'. -/
def fnExactKindTextCard : Claim7 := { stood := { row := fnExactKindTextRow, standIns := [], harness := (true, "d3f3fc9beaef6c63d20d5ffe9a24b98615b49e6af28894e078a11813d19f04c1"), looks := false }, kinds := [], alts := [], laidByText := true, laidKinds := [.data, .data, .data], laidTests := true, laidLooks := .later }
def FnExactKindTextCardSaid : Prop := Claim7.holds Tryd.pinned (.plain (OpenSpec.ofChange fnExactKindTextSpec)) fnExactKindTextCard

/-- THE TIED CARD OF 'laws.FnKinds'. -/
def fnKindsCard : Claim7 := { stood := { row := fnKindsRow, standIns := [], harness := (true, "d3f3fc9beaef6c63d20d5ffe9a24b98615b49e6af28894e078a11813d19f04c1"), looks := false }, kinds := [], alts := [], laidByText := true, laidKinds := [.data, .data, .data], laidTests := true, laidLooks := .later }
def FnKindsCardSaid : Prop := Claim7.holds Tryd.pinned (.plain (OpenSpec.ofChange fnKindsSpec)) fnKindsCard

/-- THE SECOND FORM's CARD OF 'laws.FnExactKindText'. -/
def fnExactKindTextUptoCard : Claim7 := { stood := { row := fnExactKindTextUptoRow, standIns := [], harness := (true, "d3f3fc9beaef6c63d20d5ffe9a24b98615b49e6af28894e078a11813d19f04c1"), looks := false }, kinds := [], alts := [], laidByText := true, laidKinds := [.data, .data, .data], laidTests := true, laidLooks := .later }
def FnExactKindTextUptoCardSaid : Prop := Claim7.holds Tryd.pinned (.plain (OpenSpec.upto fnExactKindTextSpec)) fnExactKindTextUptoCard

/-- THE SECOND FORM's CARD OF 'laws.FnKinds'. -/
def fnKindsUptoCard : Claim7 := { stood := { row := fnKindsUptoRow, standIns := [], harness := (true, "d3f3fc9beaef6c63d20d5ffe9a24b98615b49e6af28894e078a11813d19f04c1"), looks := false }, kinds := [], alts := [], laidByText := true, laidKinds := [.data, .data, .data], laidTests := true, laidLooks := .later }
def FnKindsUptoCardSaid : Prop := Claim7.holds Tryd.pinned (.plain (OpenSpec.upto fnKindsSpec)) fnKindsUptoCard
end Rows
end Go.Proofs.YtphalkeokpnpfaaDoor
