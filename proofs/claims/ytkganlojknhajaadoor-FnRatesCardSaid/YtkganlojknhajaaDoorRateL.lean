/- Lists of type Rate: size, copy, equality (made by wip/lists.py). -/
import Derived.Test.YtkganlojknhajaaDoorRate1
import Derived.Test.YtkganlojknhajaaDoorQuiet
namespace Go.Proofs.YtkganlojknhajaaDoor
open Go.RowKit
set_option linter.unusedVariables false
set_option linter.unusedSimpArgs false
attribute [local go_sem] ExtOf.cell

structure RateL (w : World) (A : Option Addr) (n : Nat) (xs : List Rate) : Prop where
  len : xs.length = n
  small : n ≤ 1048576
  wf : ∀ x ∈ xs, x.Wf
  rd : Rd w A n 5 (xs.flatMap Rate.cs)
theorem RateL.ext {w w' : World} {A : Option Addr} {n : Nat} {xs : List Rate} (h : RateL w A n xs) (he : Ext w w') : RateL w' A n xs := ⟨h.len, h.small, h.wf, h.rd.ext he⟩
theorem RateL.at_ {w : World} {A : Option Addr} {n k : Nat} {xs : List Rate} (h : RateL w A n xs) (hk : k < n) :
    ∃ b off x, A = some ⟨b, off, none⟩ ∧ b < w.heap.size ∧ Hid (xs[k]? = some x) ∧ w.cell? ⟨b, off + k * 5, none⟩ = some (.int .i64 x.Zone) ∧ w.cell? ⟨b, off + k * 5 + 1, none⟩ = some (.int .i64 x.Grams) ∧ w.cell? ⟨b, off + k * 5 + 2, none⟩ = some (.int .i64 x.From) ∧ w.cell? ⟨b, off + k * 5 + 3, none⟩ = some (.int .i64 x.Until) ∧ w.cell? ⟨b, off + k * 5 + 4, none⟩ = some (.int .i64 x.Cents) :=
  Rate.at_ h.rd h.len hk


theorem infoRate : (Tryd.prog.info? 26).map (fun i => (i.zero, i.size, i.bytes)) = some (some (.agg #[.int .i64 0, .int .i64 0, .int .i64 0, .int .i64 0, .int .i64 0]), 5, 40) := by kernel_rfl
theorem sizeRate : (Tryd.prog.info? 26).map (·.size) = some 5 := by kernel_rfl


end Go.Proofs.YtkganlojknhajaaDoor
