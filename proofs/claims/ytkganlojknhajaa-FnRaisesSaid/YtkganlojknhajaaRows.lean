/-
  No cell of these rows narrows 'for every input' (looked for: loops, veiled, ifaces, maps, wideKeys, modest, calm, conditions, laid).
  DERIVED. THE GIVEN ROWS OF THIS SEAT. 10 by the template 'for every input the law returns true; each argument reads behind the call as it read before'; 0 by the template 'total and deterministic' (their statements: YtkganlojknhajaaTotals.lean).
  GIVEN WITH THE SEED: the statements are not yours to turn. If you find one false, say at which input.
  Laid BY PROGRAM, IN A SANDBOX (cutbox-rows.mjs): the forced cells as the released guide's own fill.sh prints them over the translation 9ed864d48885589e… (all of the seat's roots in one cut). By AI agents, Wed Nov 11 2026. No macro, syntax, notation, axiom, sorry.
-/
import Derived.Test.YtkganlojknhajaaChecked
import GoSem.Claim
import GoSem.ClaimJoined
import GoSem.ClaimMapViews
import Derived.JoinedTies
import Derived.KernelRfl
namespace Go.Proofs.Ytkganlojknhajaa
/- THE CELL 'sum', in the pinned program and in every row, IS THE sha256 OF THE DUMP (.gsa) THAT YtkganlojknhajaaProg.lean LOADS. Nothing in Lean hashes anything: it is a label: what it is worth is what the hold of that sum in a sandbox is worth. -/
noncomputable def Try.pinned : Pinned := { name := "ytkganlojknhajaa", sum := "9ed864d48885589e27fcba4ff96804b5705789142bcd4d4a121bbba6f4bb78dc", checked := Try.checked }
namespace Rows
def none {H : Type} : Left H := { results := [], args := [] }

/-- 'laws.FnExactIsRate': WHATEVER THE INPUT: true; the input reads as it did. -/
def fnExactIsRateSpec : ChangeSpec := { name := "fnExactIsRate", fn := fun _ => fun
  | [d] => { results := [.lit (.bool true)], args := [d] }
  | _ => none }
def fnExactIsRateRow : OpenClaim := { program := "ytkganlojknhajaa", sum := "9ed864d48885589e27fcba4ff96804b5705789142bcd4d4a121bbba6f4bb78dc", func := "loop.example/g01062/laws.FnExactIsRate", spec := "fnExactIsRate", apart := false }
def FnExactIsRateSaid : Prop := fnExactIsRateRow.holds Try.pinned (OpenSpec.ofChange fnExactIsRateSpec)

/-- ITS FALSE NEIGHBOUR: 'it returns false'. Refute it at one input. -/
def fnExactIsRateWrong : ChangeSpec := { name := "fnExactIsRate", fn := fun _ => fun
  | [d] => { results := [.lit (.bool false)], args := [d] }
  | _ => none }
def FnExactIsRateWrongFalsely : Prop := fnExactIsRateRow.holds Try.pinned (OpenSpec.ofChange fnExactIsRateWrong)

/-- 'laws.FnExactAreRates': WHATEVER THE INPUT: true; the input reads as it did. -/
def fnExactAreRatesSpec : ChangeSpec := { name := "fnExactAreRates", fn := fun _ => fun
  | [d] => { results := [.lit (.bool true)], args := [d] }
  | _ => none }
def fnExactAreRatesRow : OpenClaim := { program := "ytkganlojknhajaa", sum := "9ed864d48885589e27fcba4ff96804b5705789142bcd4d4a121bbba6f4bb78dc", func := "loop.example/g01062/laws.FnExactAreRates", spec := "fnExactAreRates", apart := false }
def FnExactAreRatesSaid : Prop := fnExactAreRatesRow.holds Try.pinned (OpenSpec.ofChange fnExactAreRatesSpec)

/-- ITS FALSE NEIGHBOUR: 'it returns false'. Refute it at one input. -/
def fnExactAreRatesWrong : ChangeSpec := { name := "fnExactAreRates", fn := fun _ => fun
  | [d] => { results := [.lit (.bool false)], args := [d] }
  | _ => none }
def FnExactAreRatesWrongFalsely : Prop := fnExactAreRatesRow.holds Try.pinned (OpenSpec.ofChange fnExactAreRatesWrong)

/-- 'laws.FnExactRateFor': WHATEVER THE INPUT: true; the input reads as it did. -/
def fnExactRateForSpec : ChangeSpec := { name := "fnExactRateFor", fn := fun _ => fun
  | [d1, d2, d3, d4] => { results := [.lit (.bool true)], args := [d1, d2, d3, d4] }
  | _ => none }
def fnExactRateForRow : OpenClaim := { program := "ytkganlojknhajaa", sum := "9ed864d48885589e27fcba4ff96804b5705789142bcd4d4a121bbba6f4bb78dc", func := "loop.example/g01062/laws.FnExactRateFor", spec := "fnExactRateFor", apart := false }
def FnExactRateForSaid : Prop := fnExactRateForRow.holds Try.pinned (OpenSpec.ofChange fnExactRateForSpec)

/-- ITS FALSE NEIGHBOUR: 'it returns false'. Refute it at one input. -/
def fnExactRateForWrong : ChangeSpec := { name := "fnExactRateFor", fn := fun _ => fun
  | [d1, d2, d3, d4] => { results := [.lit (.bool false)], args := [d1, d2, d3, d4] }
  | _ => none }
def FnExactRateForWrongFalsely : Prop := fnExactRateForRow.holds Try.pinned (OpenSpec.ofChange fnExactRateForWrong)

/-- 'laws.FnExactHeaviestFor': WHATEVER THE INPUT: true; the input reads as it did. -/
def fnExactHeaviestForSpec : ChangeSpec := { name := "fnExactHeaviestFor", fn := fun _ => fun
  | [d1, d2, d3, d4] => { results := [.lit (.bool true)], args := [d1, d2, d3, d4] }
  | _ => none }
def fnExactHeaviestForRow : OpenClaim := { program := "ytkganlojknhajaa", sum := "9ed864d48885589e27fcba4ff96804b5705789142bcd4d4a121bbba6f4bb78dc", func := "loop.example/g01062/laws.FnExactHeaviestFor", spec := "fnExactHeaviestFor", apart := false }
def FnExactHeaviestForSaid : Prop := fnExactHeaviestForRow.holds Try.pinned (OpenSpec.ofChange fnExactHeaviestForSpec)

/-- ITS FALSE NEIGHBOUR: 'it returns false'. Refute it at one input. -/
def fnExactHeaviestForWrong : ChangeSpec := { name := "fnExactHeaviestFor", fn := fun _ => fun
  | [d1, d2, d3, d4] => { results := [.lit (.bool false)], args := [d1, d2, d3, d4] }
  | _ => none }
def FnExactHeaviestForWrongFalsely : Prop := fnExactHeaviestForRow.holds Try.pinned (OpenSpec.ofChange fnExactHeaviestForWrong)

/-- 'laws.FnExactFirstWithout': WHATEVER THE INPUT: true; the input reads as it did. -/
def fnExactFirstWithoutSpec : ChangeSpec := { name := "fnExactFirstWithout", fn := fun _ => fun
  | [d1, d2, d3, d4] => { results := [.lit (.bool true)], args := [d1, d2, d3, d4] }
  | _ => none }
def fnExactFirstWithoutRow : OpenClaim := { program := "ytkganlojknhajaa", sum := "9ed864d48885589e27fcba4ff96804b5705789142bcd4d4a121bbba6f4bb78dc", func := "loop.example/g01062/laws.FnExactFirstWithout", spec := "fnExactFirstWithout", apart := false }
def FnExactFirstWithoutSaid : Prop := fnExactFirstWithoutRow.holds Try.pinned (OpenSpec.ofChange fnExactFirstWithoutSpec)

/-- ITS FALSE NEIGHBOUR: 'it returns false'. Refute it at one input. -/
def fnExactFirstWithoutWrong : ChangeSpec := { name := "fnExactFirstWithout", fn := fun _ => fun
  | [d1, d2, d3, d4] => { results := [.lit (.bool false)], args := [d1, d2, d3, d4] }
  | _ => none }
def FnExactFirstWithoutWrongFalsely : Prop := fnExactFirstWithoutRow.holds Try.pinned (OpenSpec.ofChange fnExactFirstWithoutWrong)

/-- 'laws.FnExactStrangeRates': WHATEVER THE INPUT: true; the input reads as it did. -/
def fnExactStrangeRatesSpec : ChangeSpec := { name := "fnExactStrangeRates", fn := fun _ => fun
  | [d] => { results := [.lit (.bool true)], args := [d] }
  | _ => none }
def fnExactStrangeRatesRow : OpenClaim := { program := "ytkganlojknhajaa", sum := "9ed864d48885589e27fcba4ff96804b5705789142bcd4d4a121bbba6f4bb78dc", func := "loop.example/g01062/laws.FnExactStrangeRates", spec := "fnExactStrangeRates", unfollowed := true, recurses := true, apart := false }
def FnExactStrangeRatesSaid : Prop := fnExactStrangeRatesRow.holds Try.pinned (OpenSpec.ofChange fnExactStrangeRatesSpec)

/-- ITS FALSE NEIGHBOUR: 'it returns false'. Refute it at one input. -/
def fnExactStrangeRatesWrong : ChangeSpec := { name := "fnExactStrangeRates", fn := fun _ => fun
  | [d] => { results := [.lit (.bool false)], args := [d] }
  | _ => none }
def FnExactStrangeRatesWrongFalsely : Prop := fnExactStrangeRatesRow.holds Try.pinned (OpenSpec.ofChange fnExactStrangeRatesWrong)

/-- 'laws.FnExactCheapestZones': WHATEVER THE INPUT: true; the input reads as it did. -/
def fnExactCheapestZonesSpec : ChangeSpec := { name := "fnExactCheapestZones", fn := fun _ => fun
  | [d1, d2, d3] => { results := [.lit (.bool true)], args := [d1, d2, d3] }
  | _ => none }
def fnExactCheapestZonesRow : OpenClaim := { program := "ytkganlojknhajaa", sum := "9ed864d48885589e27fcba4ff96804b5705789142bcd4d4a121bbba6f4bb78dc", func := "loop.example/g01062/laws.FnExactCheapestZones", spec := "fnExactCheapestZones", apart := false }
def FnExactCheapestZonesSaid : Prop := fnExactCheapestZonesRow.holds Try.pinned (OpenSpec.ofChange fnExactCheapestZonesSpec)

/-- ITS FALSE NEIGHBOUR: 'it returns false'. Refute it at one input. -/
def fnExactCheapestZonesWrong : ChangeSpec := { name := "fnExactCheapestZones", fn := fun _ => fun
  | [d1, d2, d3] => { results := [.lit (.bool false)], args := [d1, d2, d3] }
  | _ => none }
def FnExactCheapestZonesWrongFalsely : Prop := fnExactCheapestZonesRow.holds Try.pinned (OpenSpec.ofChange fnExactCheapestZonesWrong)

/-- 'laws.FnExactRateSpans': WHATEVER THE INPUT: true; the input reads as it did. -/
def fnExactRateSpansSpec : ChangeSpec := { name := "fnExactRateSpans", fn := fun _ => fun
  | [d1, d2, d3] => { results := [.lit (.bool true)], args := [d1, d2, d3] }
  | _ => none }
def fnExactRateSpansRow : OpenClaim := { program := "ytkganlojknhajaa", sum := "9ed864d48885589e27fcba4ff96804b5705789142bcd4d4a121bbba6f4bb78dc", func := "loop.example/g01062/laws.FnExactRateSpans", spec := "fnExactRateSpans", apart := false }
def FnExactRateSpansSaid : Prop := fnExactRateSpansRow.holds Try.pinned (OpenSpec.ofChange fnExactRateSpansSpec)

/-- ITS FALSE NEIGHBOUR: 'it returns false'. Refute it at one input. -/
def fnExactRateSpansWrong : ChangeSpec := { name := "fnExactRateSpans", fn := fun _ => fun
  | [d1, d2, d3] => { results := [.lit (.bool false)], args := [d1, d2, d3] }
  | _ => none }
def FnExactRateSpansWrongFalsely : Prop := fnExactRateSpansRow.holds Try.pinned (OpenSpec.ofChange fnExactRateSpansWrong)

/-- 'laws.FnExactRaiseRate': WHATEVER THE INPUT: true; the input reads as it did. -/
def fnExactRaiseRateSpec : ChangeSpec := { name := "fnExactRaiseRate", fn := fun _ => fun
  | [d1, d2, d3, d4, d5] => { results := [.lit (.bool true)], args := [d1, d2, d3, d4, d5] }
  | _ => none }
def fnExactRaiseRateRow : OpenClaim := { program := "ytkganlojknhajaa", sum := "9ed864d48885589e27fcba4ff96804b5705789142bcd4d4a121bbba6f4bb78dc", func := "loop.example/g01062/laws.FnExactRaiseRate", spec := "fnExactRaiseRate", inPlace := ["slices.overlaps[loop.example/g01062/impl.Rate]"], unfollowed := true, recurses := true, apart := false }
def FnExactRaiseRateSaid : Prop := fnExactRaiseRateRow.holds Try.pinned (OpenSpec.ofChange fnExactRaiseRateSpec)

/-- ITS FALSE NEIGHBOUR: 'it returns false'. Refute it at one input. -/
def fnExactRaiseRateWrong : ChangeSpec := { name := "fnExactRaiseRate", fn := fun _ => fun
  | [d1, d2, d3, d4, d5] => { results := [.lit (.bool false)], args := [d1, d2, d3, d4, d5] }
  | _ => none }
def FnExactRaiseRateWrongFalsely : Prop := fnExactRaiseRateRow.holds Try.pinned (OpenSpec.ofChange fnExactRaiseRateWrong)

/-- 'laws.FnRaises': WHATEVER THE INPUT: true; the input reads as it did. -/
def fnRaisesSpec : ChangeSpec := { name := "fnRaises", fn := fun _ => fun
  | [d] => { results := [.lit (.bool true)], args := [d] }
  | _ => none }
def fnRaisesRow : OpenClaim := { program := "ytkganlojknhajaa", sum := "9ed864d48885589e27fcba4ff96804b5705789142bcd4d4a121bbba6f4bb78dc", func := "loop.example/g01062/laws.FnRaises", spec := "fnRaises", inPlace := ["slices.overlaps[loop.example/g01062/impl.Rate]"], unfollowed := true, recurses := true, apart := false }
def FnRaisesSaid : Prop := fnRaisesRow.holds Try.pinned (OpenSpec.ofChange fnRaisesSpec)

/-- ITS FALSE NEIGHBOUR: 'it returns false'. Refute it at one input. -/
def fnRaisesWrong : ChangeSpec := { name := "fnRaises", fn := fun _ => fun
  | [d] => { results := [.lit (.bool false)], args := [d] }
  | _ => none }
def FnRaisesWrongFalsely : Prop := fnRaisesRow.holds Try.pinned (OpenSpec.ofChange fnRaisesWrong)

/- THE SECOND FORM. 'bulk': how many values and letters a reading holds, each counted each time it is reached (what is shared counts as often as it is met; a slice's spare places count too). A statement '..UptoSaid' is the law's where the arguments, and the package variables that the reading takes, are together of bulk at most 1048576: NARROWER than '..Said'. Prove '..Said' where nothing that the law and all that it calls make is longer than what came in: it says more and counts as full. Else prove '..UptoSaid'. A law counts once. -/
mutual
def uptoBulk {H : Type} : DataW H → Nat
  | .lit (.string bytes) => bytes.length + 1
  | .lit _ => 1
  | .nil => 1
  | .ptr d => uptoBulk d + 1
  | .slice elems spare => uptoBulkAll elems + uptoBulkAll spare + 1
  | .agg parts => uptoBulkAll parts + 1
  | .iface _ d => uptoBulk d + 1
  | .map entries => uptoBulkEntries entries + 1
  | .held _ => 1
def uptoBulkAll {H : Type} : List (DataW H) → Nat
  | [] => 0
  | d :: r => uptoBulk d + uptoBulkAll r
def uptoBulkEntries {H : Type} : List (Lit × DataW H) → Nat
  | [] => 0
  | x :: r => uptoBulkEntry x + uptoBulkEntries r
def uptoBulkEntry {H : Type} : Lit × DataW H → Nat
  | (.string bytes, d) => bytes.length + uptoBulk d + 1
  | (_, d) => uptoBulk d + 1
 end
def uptoSmall : (H : Type) → List (DataW H) → Bool := fun _ ds => decide (uptoBulkAll ds ≤ 1048576)
def OpenSpec.upto (s : _root_.Go.ChangeSpec) : _root_.Go.OpenSpec := { _root_.Go.OpenSpec.ofChange s with cond := some uptoSmall }

/-- 'laws.FnExactIsRate', WHERE WHAT IT READS IS OF BULK AT MOST 1048576: true; the input reads as it did. -/
def fnExactIsRateUptoRow : OpenClaim := { program := "ytkganlojknhajaa", sum := "9ed864d48885589e27fcba4ff96804b5705789142bcd4d4a121bbba6f4bb78dc", func := "loop.example/g01062/laws.FnExactIsRate", spec := "fnExactIsRate", apart := false, narrowed := true }
def FnExactIsRateUptoSaid : Prop := fnExactIsRateUptoRow.holds Try.pinned (OpenSpec.upto fnExactIsRateSpec)

/-- 'laws.FnExactAreRates', WHERE WHAT IT READS IS OF BULK AT MOST 1048576: true; the input reads as it did. -/
def fnExactAreRatesUptoRow : OpenClaim := { program := "ytkganlojknhajaa", sum := "9ed864d48885589e27fcba4ff96804b5705789142bcd4d4a121bbba6f4bb78dc", func := "loop.example/g01062/laws.FnExactAreRates", spec := "fnExactAreRates", apart := false, narrowed := true }
def FnExactAreRatesUptoSaid : Prop := fnExactAreRatesUptoRow.holds Try.pinned (OpenSpec.upto fnExactAreRatesSpec)

/-- 'laws.FnExactRateFor', WHERE WHAT IT READS IS OF BULK AT MOST 1048576: true; the input reads as it did. -/
def fnExactRateForUptoRow : OpenClaim := { program := "ytkganlojknhajaa", sum := "9ed864d48885589e27fcba4ff96804b5705789142bcd4d4a121bbba6f4bb78dc", func := "loop.example/g01062/laws.FnExactRateFor", spec := "fnExactRateFor", apart := false, narrowed := true }
def FnExactRateForUptoSaid : Prop := fnExactRateForUptoRow.holds Try.pinned (OpenSpec.upto fnExactRateForSpec)

/-- 'laws.FnExactHeaviestFor', WHERE WHAT IT READS IS OF BULK AT MOST 1048576: true; the input reads as it did. -/
def fnExactHeaviestForUptoRow : OpenClaim := { program := "ytkganlojknhajaa", sum := "9ed864d48885589e27fcba4ff96804b5705789142bcd4d4a121bbba6f4bb78dc", func := "loop.example/g01062/laws.FnExactHeaviestFor", spec := "fnExactHeaviestFor", apart := false, narrowed := true }
def FnExactHeaviestForUptoSaid : Prop := fnExactHeaviestForUptoRow.holds Try.pinned (OpenSpec.upto fnExactHeaviestForSpec)

/-- 'laws.FnExactFirstWithout', WHERE WHAT IT READS IS OF BULK AT MOST 1048576: true; the input reads as it did. -/
def fnExactFirstWithoutUptoRow : OpenClaim := { program := "ytkganlojknhajaa", sum := "9ed864d48885589e27fcba4ff96804b5705789142bcd4d4a121bbba6f4bb78dc", func := "loop.example/g01062/laws.FnExactFirstWithout", spec := "fnExactFirstWithout", apart := false, narrowed := true }
def FnExactFirstWithoutUptoSaid : Prop := fnExactFirstWithoutUptoRow.holds Try.pinned (OpenSpec.upto fnExactFirstWithoutSpec)

/-- 'laws.FnExactStrangeRates', WHERE WHAT IT READS IS OF BULK AT MOST 1048576: true; the input reads as it did. -/
def fnExactStrangeRatesUptoRow : OpenClaim := { program := "ytkganlojknhajaa", sum := "9ed864d48885589e27fcba4ff96804b5705789142bcd4d4a121bbba6f4bb78dc", func := "loop.example/g01062/laws.FnExactStrangeRates", spec := "fnExactStrangeRates", unfollowed := true, recurses := true, apart := false, narrowed := true }
def FnExactStrangeRatesUptoSaid : Prop := fnExactStrangeRatesUptoRow.holds Try.pinned (OpenSpec.upto fnExactStrangeRatesSpec)

/-- 'laws.FnExactCheapestZones', WHERE WHAT IT READS IS OF BULK AT MOST 1048576: true; the input reads as it did. -/
def fnExactCheapestZonesUptoRow : OpenClaim := { program := "ytkganlojknhajaa", sum := "9ed864d48885589e27fcba4ff96804b5705789142bcd4d4a121bbba6f4bb78dc", func := "loop.example/g01062/laws.FnExactCheapestZones", spec := "fnExactCheapestZones", apart := false, narrowed := true }
def FnExactCheapestZonesUptoSaid : Prop := fnExactCheapestZonesUptoRow.holds Try.pinned (OpenSpec.upto fnExactCheapestZonesSpec)

/-- 'laws.FnExactRateSpans', WHERE WHAT IT READS IS OF BULK AT MOST 1048576: true; the input reads as it did. -/
def fnExactRateSpansUptoRow : OpenClaim := { program := "ytkganlojknhajaa", sum := "9ed864d48885589e27fcba4ff96804b5705789142bcd4d4a121bbba6f4bb78dc", func := "loop.example/g01062/laws.FnExactRateSpans", spec := "fnExactRateSpans", apart := false, narrowed := true }
def FnExactRateSpansUptoSaid : Prop := fnExactRateSpansUptoRow.holds Try.pinned (OpenSpec.upto fnExactRateSpansSpec)

/-- 'laws.FnExactRaiseRate', WHERE WHAT IT READS IS OF BULK AT MOST 1048576: true; the input reads as it did. -/
def fnExactRaiseRateUptoRow : OpenClaim := { program := "ytkganlojknhajaa", sum := "9ed864d48885589e27fcba4ff96804b5705789142bcd4d4a121bbba6f4bb78dc", func := "loop.example/g01062/laws.FnExactRaiseRate", spec := "fnExactRaiseRate", inPlace := ["slices.overlaps[loop.example/g01062/impl.Rate]"], unfollowed := true, recurses := true, apart := false, narrowed := true }
def FnExactRaiseRateUptoSaid : Prop := fnExactRaiseRateUptoRow.holds Try.pinned (OpenSpec.upto fnExactRaiseRateSpec)

/-- 'laws.FnRaises', WHERE WHAT IT READS IS OF BULK AT MOST 1048576: true; the input reads as it did. -/
def fnRaisesUptoRow : OpenClaim := { program := "ytkganlojknhajaa", sum := "9ed864d48885589e27fcba4ff96804b5705789142bcd4d4a121bbba6f4bb78dc", func := "loop.example/g01062/laws.FnRaises", spec := "fnRaises", inPlace := ["slices.overlaps[loop.example/g01062/impl.Rate]"], unfollowed := true, recurses := true, apart := false, narrowed := true }
def FnRaisesUptoSaid : Prop := fnRaisesUptoRow.holds Try.pinned (OpenSpec.upto fnRaisesSpec)

end Rows
end Go.Proofs.Ytkganlojknhajaa
