/- Lists of type Mail: size, copy, equality (made by wip/lists.py). -/
import Derived.Test.YtmgpdenofkloeaaDoorMail1
import Derived.Test.YtmgpdenofkloeaaDoorQuiet
namespace Go.Proofs.YtmgpdenofkloeaaDoor
open Go.RowKit
set_option linter.unusedVariables false
set_option linter.unusedSimpArgs false
attribute [local go_sem] ExtOf.cell

structure MailL (w : World) (A : Option Addr) (n : Nat) (xs : List Mail) : Prop where
  len : xs.length = n
  small : n ≤ 1048576
  wf : ∀ x ∈ xs, x.Wf
  rd : Rd w A n 4 (xs.flatMap Mail.cs)
theorem MailL.ext {w w' : World} {A : Option Addr} {n : Nat} {xs : List Mail} (h : MailL w A n xs) (he : Ext w w') : MailL w' A n xs := ⟨h.len, h.small, h.wf, h.rd.ext he⟩
theorem MailL.at_ {w : World} {A : Option Addr} {n k : Nat} {xs : List Mail} (h : MailL w A n xs) (hk : k < n) :
    ∃ b off x, A = some ⟨b, off, none⟩ ∧ b < w.heap.size ∧ Hid (xs[k]? = some x) ∧ w.cell? ⟨b, off + k * 4, none⟩ = some (.int .i64 x.Leave) ∧ w.cell? ⟨b, off + k * 4 + 1, none⟩ = some (.int .i64 x.From) ∧ w.cell? ⟨b, off + k * 4 + 2, none⟩ = some (.int .i64 x.To) ∧ w.cell? ⟨b, off + k * 4 + 3, none⟩ = some (.int .i64 x.Arrive) :=
  Mail.at_ h.rd h.len hk


theorem infoMail : (Tryd.prog.info? 36).map (fun i => (i.zero, i.size, i.bytes)) = some (some (.agg #[.int .i64 0, .int .i64 0, .int .i64 0, .int .i64 0]), 4, 32) := by kernel_rfl
theorem sizeMail : (Tryd.prog.info? 36).map (·.size) = some 4 := by kernel_rfl


end Go.Proofs.YtmgpdenofkloeaaDoor
