/- Lists of type Ban: size, copy, equality (made by wip/lists.py). -/
import Derived.Test.YtekggbmpogmlcaaDoorBan1
import Derived.Test.YtekggbmpogmlcaaDoorQuiet
namespace Go.Proofs.YtekggbmpogmlcaaDoor
open Go.RowKit
set_option linter.unusedVariables false
set_option linter.unusedSimpArgs false
attribute [local go_sem] ExtOf.cell

structure BanL (w : World) (A : Option Addr) (n : Nat) (xs : List Ban) : Prop where
  len : xs.length = n
  small : n ≤ 1048576
  wf : ∀ x ∈ xs, x.Wf
  rd : Rd w A n 4 (xs.flatMap Ban.cs)
theorem BanL.ext {w w' : World} {A : Option Addr} {n : Nat} {xs : List Ban} (h : BanL w A n xs) (he : Ext w w') : BanL w' A n xs := ⟨h.len, h.small, h.wf, h.rd.ext he⟩
theorem BanL.at_ {w : World} {A : Option Addr} {n k : Nat} {xs : List Ban} (h : BanL w A n xs) (hk : k < n) :
    ∃ b off x, A = some ⟨b, off, none⟩ ∧ b < w.heap.size ∧ Hid (xs[k]? = some x) ∧ w.cell? ⟨b, off + k * 4, none⟩ = some (.int .i64 x.A) ∧ w.cell? ⟨b, off + k * 4 + 1, none⟩ = some (.int .i64 x.X) ∧ w.cell? ⟨b, off + k * 4 + 2, none⟩ = some (.int .i64 x.B) ∧ w.cell? ⟨b, off + k * 4 + 3, none⟩ = some (.int .i64 x.Y) :=
  Ban.at_ h.rd h.len hk


theorem infoBan : (Tryd.prog.info? 61).map (fun i => (i.zero, i.size, i.bytes)) = some (some (.agg #[.int .i64 0, .int .i64 0, .int .i64 0, .int .i64 0]), 4, 32) := by kernel_rfl
theorem sizeBan : (Tryd.prog.info? 61).map (·.size) = some 4 := by kernel_rfl


end Go.Proofs.YtekggbmpogmlcaaDoor
