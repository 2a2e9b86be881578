/-
  No cell of these rows narrows 'for every input' (looked for: loops, veiled, ifaces, maps, wideKeys, modest, calm, conditions, laid).
  DERIVED. THE GIVEN ROWS OF THIS SEAT. 10 by the template 'for every input the law returns true; each argument reads behind the call as it read before'; 0 by the template 'total and deterministic' (their statements: YtphalkeokpnpfaaTotals.lean).
  GIVEN WITH THE SEED: the statements are not yours to turn. If you find one false, say at which input.
  Laid BY PROGRAM, IN A SANDBOX (cutbox-rows.mjs): the forced cells as the released guide's own fill.sh prints them over the translation fb857bbba2ae7b41… (all of the seat's roots in one cut). By AI agents, Wed Nov 11 2026. No macro, syntax, notation, axiom, sorry.
-/
import Derived.Test.YtphalkeokpnpfaaChecked
import GoSem.Claim
import GoSem.ClaimJoined
import GoSem.ClaimMapViews
import Derived.JoinedTies
import Derived.KernelRfl
namespace Go.Proofs.Ytphalkeokpnpfaa
/- THE CELL 'sum', in the pinned program and in every row, IS THE sha256 OF THE DUMP (.gsa) THAT YtphalkeokpnpfaaProg.lean LOADS. Nothing in Lean hashes anything: it is a label: what it is worth is what the hold of that sum in a sandbox is worth. -/
noncomputable def Try.pinned : Pinned := { name := "ytphalkeokpnpfaa", sum := "fb857bbba2ae7b41b5d3f9ffc82e5128877baa61b9f7480b705f5e24272c9b56", checked := Try.checked }
namespace Rows
def none {H : Type} : Left H := { results := [], args := [] }

/-- 'laws.FnExactIsKindTable': WHATEVER THE INPUT: true; the input reads as it did. -/
def fnExactIsKindTableSpec : ChangeSpec := { name := "fnExactIsKindTable", fn := fun _ => fun
  | [d] => { results := [.lit (.bool true)], args := [d] }
  | _ => none }
def fnExactIsKindTableRow : OpenClaim := { program := "ytphalkeokpnpfaa", sum := "fb857bbba2ae7b41b5d3f9ffc82e5128877baa61b9f7480b705f5e24272c9b56", func := "loop.example/g01062/laws.FnExactIsKindTable", spec := "fnExactIsKindTable", apart := false }
def FnExactIsKindTableSaid : Prop := fnExactIsKindTableRow.holds Try.pinned (OpenSpec.ofChange fnExactIsKindTableSpec)

/-- ITS FALSE NEIGHBOUR: 'it returns false'. Refute it at one input. -/
def fnExactIsKindTableWrong : ChangeSpec := { name := "fnExactIsKindTable", fn := fun _ => fun
  | [d] => { results := [.lit (.bool false)], args := [d] }
  | _ => none }
def FnExactIsKindTableWrongFalsely : Prop := fnExactIsKindTableRow.holds Try.pinned (OpenSpec.ofChange fnExactIsKindTableWrong)

/-- 'laws.FnExactIsCompatible': WHATEVER THE INPUT: true; the input reads as it did. -/
def fnExactIsCompatibleSpec : ChangeSpec := { name := "fnExactIsCompatible", fn := fun _ => fun
  | [d1, d2] => { results := [.lit (.bool true)], args := [d1, d2] }
  | _ => none }
def fnExactIsCompatibleRow : OpenClaim := { program := "ytphalkeokpnpfaa", sum := "fb857bbba2ae7b41b5d3f9ffc82e5128877baa61b9f7480b705f5e24272c9b56", func := "loop.example/g01062/laws.FnExactIsCompatible", spec := "fnExactIsCompatible", unfollowed := true, recurses := true, apart := false }
def FnExactIsCompatibleSaid : Prop := fnExactIsCompatibleRow.holds Try.pinned (OpenSpec.ofChange fnExactIsCompatibleSpec)

/-- ITS FALSE NEIGHBOUR: 'it returns false'. Refute it at one input. -/
def fnExactIsCompatibleWrong : ChangeSpec := { name := "fnExactIsCompatible", fn := fun _ => fun
  | [d1, d2] => { results := [.lit (.bool false)], args := [d1, d2] }
  | _ => none }
def FnExactIsCompatibleWrongFalsely : Prop := fnExactIsCompatibleRow.holds Try.pinned (OpenSpec.ofChange fnExactIsCompatibleWrong)

/-- 'laws.FnExactCountCompatible': WHATEVER THE INPUT: true; the input reads as it did. -/
def fnExactCountCompatibleSpec : ChangeSpec := { name := "fnExactCountCompatible", fn := fun _ => fun
  | [d] => { results := [.lit (.bool true)], args := [d] }
  | _ => none }
def fnExactCountCompatibleRow : OpenClaim := { program := "ytphalkeokpnpfaa", sum := "fb857bbba2ae7b41b5d3f9ffc82e5128877baa61b9f7480b705f5e24272c9b56", func := "loop.example/g01062/laws.FnExactCountCompatible", spec := "fnExactCountCompatible", unfollowed := true, recurses := true, apart := false }
def FnExactCountCompatibleSaid : Prop := fnExactCountCompatibleRow.holds Try.pinned (OpenSpec.ofChange fnExactCountCompatibleSpec)

/-- ITS FALSE NEIGHBOUR: 'it returns false'. Refute it at one input. -/
def fnExactCountCompatibleWrong : ChangeSpec := { name := "fnExactCountCompatible", fn := fun _ => fun
  | [d] => { results := [.lit (.bool false)], args := [d] }
  | _ => none }
def FnExactCountCompatibleWrongFalsely : Prop := fnExactCountCompatibleRow.holds Try.pinned (OpenSpec.ofChange fnExactCountCompatibleWrong)

/-- 'laws.FnExactKindsWith': WHATEVER THE INPUT: true; the input reads as it did. -/
def fnExactKindsWithSpec : ChangeSpec := { name := "fnExactKindsWith", fn := fun _ => fun
  | [d1, d2, d3] => { results := [.lit (.bool true)], args := [d1, d2, d3] }
  | _ => none }
def fnExactKindsWithRow : OpenClaim := { program := "ytphalkeokpnpfaa", sum := "fb857bbba2ae7b41b5d3f9ffc82e5128877baa61b9f7480b705f5e24272c9b56", func := "loop.example/g01062/laws.FnExactKindsWith", spec := "fnExactKindsWith", unfollowed := true, recurses := true, apart := false }
def FnExactKindsWithSaid : Prop := fnExactKindsWithRow.holds Try.pinned (OpenSpec.ofChange fnExactKindsWithSpec)

/-- ITS FALSE NEIGHBOUR: 'it returns false'. Refute it at one input. -/
def fnExactKindsWithWrong : ChangeSpec := { name := "fnExactKindsWith", fn := fun _ => fun
  | [d1, d2, d3] => { results := [.lit (.bool false)], args := [d1, d2, d3] }
  | _ => none }
def FnExactKindsWithWrongFalsely : Prop := fnExactKindsWithRow.holds Try.pinned (OpenSpec.ofChange fnExactKindsWithWrong)

/-- 'laws.FnExactFirstKind': WHATEVER THE INPUT: true; the input reads as it did. -/
def fnExactFirstKindSpec : ChangeSpec := { name := "fnExactFirstKind", fn := fun _ => fun
  | [d] => { results := [.lit (.bool true)], args := [d] }
  | _ => none }
def fnExactFirstKindRow : OpenClaim := { program := "ytphalkeokpnpfaa", sum := "fb857bbba2ae7b41b5d3f9ffc82e5128877baa61b9f7480b705f5e24272c9b56", func := "loop.example/g01062/laws.FnExactFirstKind", spec := "fnExactFirstKind", unfollowed := true, recurses := true, apart := false }
def FnExactFirstKindSaid : Prop := fnExactFirstKindRow.holds Try.pinned (OpenSpec.ofChange fnExactFirstKindSpec)

/-- ITS FALSE NEIGHBOUR: 'it returns false'. Refute it at one input. -/
def fnExactFirstKindWrong : ChangeSpec := { name := "fnExactFirstKind", fn := fun _ => fun
  | [d] => { results := [.lit (.bool false)], args := [d] }
  | _ => none }
def FnExactFirstKindWrongFalsely : Prop := fnExactFirstKindRow.holds Try.pinned (OpenSpec.ofChange fnExactFirstKindWrong)

/-- 'laws.FnExactNeedlessBans': WHATEVER THE INPUT: true; the input reads as it did. -/
def fnExactNeedlessBansSpec : ChangeSpec := { name := "fnExactNeedlessBans", fn := fun _ => fun
  | [d] => { results := [.lit (.bool true)], args := [d] }
  | _ => none }
def fnExactNeedlessBansRow : OpenClaim := { program := "ytphalkeokpnpfaa", sum := "fb857bbba2ae7b41b5d3f9ffc82e5128877baa61b9f7480b705f5e24272c9b56", func := "loop.example/g01062/laws.FnExactNeedlessBans", spec := "fnExactNeedlessBans", unfollowed := true, recurses := true, apart := false }
def FnExactNeedlessBansSaid : Prop := fnExactNeedlessBansRow.holds Try.pinned (OpenSpec.ofChange fnExactNeedlessBansSpec)

/-- ITS FALSE NEIGHBOUR: 'it returns false'. Refute it at one input. -/
def fnExactNeedlessBansWrong : ChangeSpec := { name := "fnExactNeedlessBans", fn := fun _ => fun
  | [d] => { results := [.lit (.bool false)], args := [d] }
  | _ => none }
def FnExactNeedlessBansWrongFalsely : Prop := fnExactNeedlessBansRow.holds Try.pinned (OpenSpec.ofChange fnExactNeedlessBansWrong)

/-- 'laws.FnExactNextKind': WHATEVER THE INPUT: true; the input reads as it did. -/
def fnExactNextKindSpec : ChangeSpec := { name := "fnExactNextKind", fn := fun _ => fun
  | [d1, d2] => { results := [.lit (.bool true)], args := [d1, d2] }
  | _ => none }
def fnExactNextKindRow : OpenClaim := { program := "ytphalkeokpnpfaa", sum := "fb857bbba2ae7b41b5d3f9ffc82e5128877baa61b9f7480b705f5e24272c9b56", func := "loop.example/g01062/laws.FnExactNextKind", spec := "fnExactNextKind", unfollowed := true, recurses := true, apart := false }
def FnExactNextKindSaid : Prop := fnExactNextKindRow.holds Try.pinned (OpenSpec.ofChange fnExactNextKindSpec)

/-- ITS FALSE NEIGHBOUR: 'it returns false'. Refute it at one input. -/
def fnExactNextKindWrong : ChangeSpec := { name := "fnExactNextKind", fn := fun _ => fun
  | [d1, d2] => { results := [.lit (.bool false)], args := [d1, d2] }
  | _ => none }
def FnExactNextKindWrongFalsely : Prop := fnExactNextKindRow.holds Try.pinned (OpenSpec.ofChange fnExactNextKindWrong)

/-- 'laws.FnExactDeadValues': WHATEVER THE INPUT: true; the input reads as it did. -/
def fnExactDeadValuesSpec : ChangeSpec := { name := "fnExactDeadValues", fn := fun _ => fun
  | [d] => { results := [.lit (.bool true)], args := [d] }
  | _ => none }
def fnExactDeadValuesRow : OpenClaim := { program := "ytphalkeokpnpfaa", sum := "fb857bbba2ae7b41b5d3f9ffc82e5128877baa61b9f7480b705f5e24272c9b56", func := "loop.example/g01062/laws.FnExactDeadValues", spec := "fnExactDeadValues", unfollowed := true, recurses := true, apart := false }
def FnExactDeadValuesSaid : Prop := fnExactDeadValuesRow.holds Try.pinned (OpenSpec.ofChange fnExactDeadValuesSpec)

/-- ITS FALSE NEIGHBOUR: 'it returns false'. Refute it at one input. -/
def fnExactDeadValuesWrong : ChangeSpec := { name := "fnExactDeadValues", fn := fun _ => fun
  | [d] => { results := [.lit (.bool false)], args := [d] }
  | _ => none }
def FnExactDeadValuesWrongFalsely : Prop := fnExactDeadValuesRow.holds Try.pinned (OpenSpec.ofChange fnExactDeadValuesWrong)

/-- 'laws.FnExactAddBan': WHATEVER THE INPUT: true; the input reads as it did. -/
def fnExactAddBanSpec : ChangeSpec := { name := "fnExactAddBan", fn := fun _ => fun
  | [d1, d2] => { results := [.lit (.bool true)], args := [d1, d2] }
  | _ => none }
def fnExactAddBanRow : OpenClaim := { program := "ytphalkeokpnpfaa", sum := "fb857bbba2ae7b41b5d3f9ffc82e5128877baa61b9f7480b705f5e24272c9b56", func := "loop.example/g01062/laws.FnExactAddBan", spec := "fnExactAddBan", inPlace := ["slices.overlaps[loop.example/g01062/impl.Ban]"], unfollowed := true, recurses := true, apart := false }
def FnExactAddBanSaid : Prop := fnExactAddBanRow.holds Try.pinned (OpenSpec.ofChange fnExactAddBanSpec)

/-- ITS FALSE NEIGHBOUR: 'it returns false'. Refute it at one input. -/
def fnExactAddBanWrong : ChangeSpec := { name := "fnExactAddBan", fn := fun _ => fun
  | [d1, d2] => { results := [.lit (.bool false)], args := [d1, d2] }
  | _ => none }
def FnExactAddBanWrongFalsely : Prop := fnExactAddBanRow.holds Try.pinned (OpenSpec.ofChange fnExactAddBanWrong)

/-- 'laws.FnBans': WHATEVER THE INPUT: true; the input reads as it did. -/
def fnBansSpec : ChangeSpec := { name := "fnBans", fn := fun _ => fun
  | [d] => { results := [.lit (.bool true)], args := [d] }
  | _ => none }
def fnBansRow : OpenClaim := { program := "ytphalkeokpnpfaa", sum := "fb857bbba2ae7b41b5d3f9ffc82e5128877baa61b9f7480b705f5e24272c9b56", func := "loop.example/g01062/laws.FnBans", spec := "fnBans", inPlace := ["slices.overlaps[loop.example/g01062/impl.Ban]"], unfollowed := true, recurses := true, apart := false }
def FnBansSaid : Prop := fnBansRow.holds Try.pinned (OpenSpec.ofChange fnBansSpec)

/-- ITS FALSE NEIGHBOUR: 'it returns false'. Refute it at one input. -/
def fnBansWrong : ChangeSpec := { name := "fnBans", fn := fun _ => fun
  | [d] => { results := [.lit (.bool false)], args := [d] }
  | _ => none }
def FnBansWrongFalsely : Prop := fnBansRow.holds Try.pinned (OpenSpec.ofChange fnBansWrong)

/- THE SECOND FORM. 'bulk': how many values and letters a reading holds, each counted each time it is reached (what is shared counts as often as it is met; a slice's spare places count too). A statement '..UptoSaid' is the law's where the arguments, and the package variables that the reading takes, are together of bulk at most 1048576: NARROWER than '..Said'. Prove '..Said' where nothing that the law and all that it calls make is longer than what came in: it says more and counts as full. Else prove '..UptoSaid'. A law counts once. -/
mutual
def uptoBulk {H : Type} : DataW H → Nat
  | .lit (.string bytes) => bytes.length + 1
  | .lit _ => 1
  | .nil => 1
  | .ptr d => uptoBulk d + 1
  | .slice elems spare => uptoBulkAll elems + uptoBulkAll spare + 1
  | .agg parts => uptoBulkAll parts + 1
  | .iface _ d => uptoBulk d + 1
  | .map entries => uptoBulkEntries entries + 1
  | .held _ => 1
def uptoBulkAll {H : Type} : List (DataW H) → Nat
  | [] => 0
  | d :: r => uptoBulk d + uptoBulkAll r
def uptoBulkEntries {H : Type} : List (Lit × DataW H) → Nat
  | [] => 0
  | x :: r => uptoBulkEntry x + uptoBulkEntries r
def uptoBulkEntry {H : Type} : Lit × DataW H → Nat
  | (.string bytes, d) => bytes.length + uptoBulk d + 1
  | (_, d) => uptoBulk d + 1
 end
def uptoSmall : (H : Type) → List (DataW H) → Bool := fun _ ds => decide (uptoBulkAll ds ≤ 1048576)
def OpenSpec.upto (s : _root_.Go.ChangeSpec) : _root_.Go.OpenSpec := { _root_.Go.OpenSpec.ofChange s with cond := some uptoSmall }

/-- 'laws.FnExactIsKindTable', WHERE WHAT IT READS IS OF BULK AT MOST 1048576: true; the input reads as it did. -/
def fnExactIsKindTableUptoRow : OpenClaim := { program := "ytphalkeokpnpfaa", sum := "fb857bbba2ae7b41b5d3f9ffc82e5128877baa61b9f7480b705f5e24272c9b56", func := "loop.example/g01062/laws.FnExactIsKindTable", spec := "fnExactIsKindTable", apart := false, narrowed := true }
def FnExactIsKindTableUptoSaid : Prop := fnExactIsKindTableUptoRow.holds Try.pinned (OpenSpec.upto fnExactIsKindTableSpec)

/-- 'laws.FnExactIsCompatible', WHERE WHAT IT READS IS OF BULK AT MOST 1048576: true; the input reads as it did. -/
def fnExactIsCompatibleUptoRow : OpenClaim := { program := "ytphalkeokpnpfaa", sum := "fb857bbba2ae7b41b5d3f9ffc82e5128877baa61b9f7480b705f5e24272c9b56", func := "loop.example/g01062/laws.FnExactIsCompatible", spec := "fnExactIsCompatible", unfollowed := true, recurses := true, apart := false, narrowed := true }
def FnExactIsCompatibleUptoSaid : Prop := fnExactIsCompatibleUptoRow.holds Try.pinned (OpenSpec.upto fnExactIsCompatibleSpec)

/-- 'laws.FnExactCountCompatible', WHERE WHAT IT READS IS OF BULK AT MOST 1048576: true; the input reads as it did. -/
def fnExactCountCompatibleUptoRow : OpenClaim := { program := "ytphalkeokpnpfaa", sum := "fb857bbba2ae7b41b5d3f9ffc82e5128877baa61b9f7480b705f5e24272c9b56", func := "loop.example/g01062/laws.FnExactCountCompatible", spec := "fnExactCountCompatible", unfollowed := true, recurses := true, apart := false, narrowed := true }
def FnExactCountCompatibleUptoSaid : Prop := fnExactCountCompatibleUptoRow.holds Try.pinned (OpenSpec.upto fnExactCountCompatibleSpec)

/-- 'laws.FnExactKindsWith', WHERE WHAT IT READS IS OF BULK AT MOST 1048576: true; the input reads as it did. -/
def fnExactKindsWithUptoRow : OpenClaim := { program := "ytphalkeokpnpfaa", sum := "fb857bbba2ae7b41b5d3f9ffc82e5128877baa61b9f7480b705f5e24272c9b56", func := "loop.example/g01062/laws.FnExactKindsWith", spec := "fnExactKindsWith", unfollowed := true, recurses := true, apart := false, narrowed := true }
def FnExactKindsWithUptoSaid : Prop := fnExactKindsWithUptoRow.holds Try.pinned (OpenSpec.upto fnExactKindsWithSpec)

/-- 'laws.FnExactFirstKind', WHERE WHAT IT READS IS OF BULK AT MOST 1048576: true; the input reads as it did. -/
def fnExactFirstKindUptoRow : OpenClaim := { program := "ytphalkeokpnpfaa", sum := "fb857bbba2ae7b41b5d3f9ffc82e5128877baa61b9f7480b705f5e24272c9b56", func := "loop.example/g01062/laws.FnExactFirstKind", spec := "fnExactFirstKind", unfollowed := true, recurses := true, apart := false, narrowed := true }
def FnExactFirstKindUptoSaid : Prop := fnExactFirstKindUptoRow.holds Try.pinned (OpenSpec.upto fnExactFirstKindSpec)

/-- 'laws.FnExactNeedlessBans', WHERE WHAT IT READS IS OF BULK AT MOST 1048576: true; the input reads as it did. -/
def fnExactNeedlessBansUptoRow : OpenClaim := { program := "ytphalkeokpnpfaa", sum := "fb857bbba2ae7b41b5d3f9ffc82e5128877baa61b9f7480b705f5e24272c9b56", func := "loop.example/g01062/laws.FnExactNeedlessBans", spec := "fnExactNeedlessBans", unfollowed := true, recurses := true, apart := false, narrowed := true }
def FnExactNeedlessBansUptoSaid : Prop := fnExactNeedlessBansUptoRow.holds Try.pinned (OpenSpec.upto fnExactNeedlessBansSpec)

/-- 'laws.FnExactNextKind', WHERE WHAT IT READS IS OF BULK AT MOST 1048576: true; the input reads as it did. -/
def fnExactNextKindUptoRow : OpenClaim := { program := "ytphalkeokpnpfaa", sum := "fb857bbba2ae7b41b5d3f9ffc82e5128877baa61b9f7480b705f5e24272c9b56", func := "loop.example/g01062/laws.FnExactNextKind", spec := "fnExactNextKind", unfollowed := true, recurses := true, apart := false, narrowed := true }
def FnExactNextKindUptoSaid : Prop := fnExactNextKindUptoRow.holds Try.pinned (OpenSpec.upto fnExactNextKindSpec)

/-- 'laws.FnExactDeadValues', WHERE WHAT IT READS IS OF BULK AT MOST 1048576: true; the input reads as it did. -/
def fnExactDeadValuesUptoRow : OpenClaim := { program := "ytphalkeokpnpfaa", sum := "fb857bbba2ae7b41b5d3f9ffc82e5128877baa61b9f7480b705f5e24272c9b56", func := "loop.example/g01062/laws.FnExactDeadValues", spec := "fnExactDeadValues", unfollowed := true, recurses := true, apart := false, narrowed := true }
def FnExactDeadValuesUptoSaid : Prop := fnExactDeadValuesUptoRow.holds Try.pinned (OpenSpec.upto fnExactDeadValuesSpec)

/-- 'laws.FnExactAddBan', WHERE WHAT IT READS IS OF BULK AT MOST 1048576: true; the input reads as it did. -/
def fnExactAddBanUptoRow : OpenClaim := { program := "ytphalkeokpnpfaa", sum := "fb857bbba2ae7b41b5d3f9ffc82e5128877baa61b9f7480b705f5e24272c9b56", func := "loop.example/g01062/laws.FnExactAddBan", spec := "fnExactAddBan", inPlace := ["slices.overlaps[loop.example/g01062/impl.Ban]"], unfollowed := true, recurses := true, apart := false, narrowed := true }
def FnExactAddBanUptoSaid : Prop := fnExactAddBanUptoRow.holds Try.pinned (OpenSpec.upto fnExactAddBanSpec)

/-- 'laws.FnBans', WHERE WHAT IT READS IS OF BULK AT MOST 1048576: true; the input reads as it did. -/
def fnBansUptoRow : OpenClaim := { program := "ytphalkeokpnpfaa", sum := "fb857bbba2ae7b41b5d3f9ffc82e5128877baa61b9f7480b705f5e24272c9b56", func := "loop.example/g01062/laws.FnBans", spec := "fnBans", inPlace := ["slices.overlaps[loop.example/g01062/impl.Ban]"], unfollowed := true, recurses := true, apart := false, narrowed := true }
def FnBansUptoSaid : Prop := fnBansUptoRow.holds Try.pinned (OpenSpec.upto fnBansSpec)

end Rows
end Go.Proofs.Ytphalkeokpnpfaa
