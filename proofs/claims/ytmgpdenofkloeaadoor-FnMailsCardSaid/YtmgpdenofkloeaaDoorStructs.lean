/- Structs of one-cell fields: made by wip/structs.py. -/
import Derived.Test.YtmgpdenofkloeaaDoorOpen
import Derived.Test.YtmgpdenofkloeaaDoorProg
namespace Go.Proofs.YtmgpdenofkloeaaDoor
open Go.ChangeShapes Go.WideShapes Go.RowKit Go.Deep
set_option linter.unusedVariables false
set_option linter.unusedSimpArgs false
set_option maxRecDepth 100000
section
variable {H : Type} {enc : TypeId × Value → H} {w : World} {base : Nat} {spare : Nat → Bool} {held : Bool}



/-- Mail, as the program has it. -/
structure Mail where
  Leave : Int
  From : Int
  To : Int
  Arrive : Int
def Mail.cs (x : Mail) : List Value := [.int .i64 x.Leave, .int .i64 x.From, .int .i64 x.To, .int .i64 x.Arrive]
theorem Mail.len (x : Mail) : x.cs.length = 4 := rfl
def Mail.Wf (x : Mail) : Prop := (Lit.int .i64 x.Leave).wf = true ∧ (Lit.int .i64 x.From).wf = true ∧ (Lit.int .i64 x.To).wf = true ∧ (Lit.int .i64 x.Arrive).wf = true
theorem Mail.one (xs : List Mail) : ∀ u ∈ xs.flatMap Mail.cs, u.oneCell' = true := by
  intro u hu
  obtain ⟨x, _, hx⟩ := List.mem_flatMap.1 hu
  simp only [Mail.cs, List.mem_cons, List.not_mem_nil, or_false] at hx
  rcases hx with rfl | rfl | rfl | rfl <;> rfl
theorem Mail.at_ {A : Option Addr} {n k : Nat} {xs : List Mail} (h : Rd w A n 4 (xs.flatMap Mail.cs)) (hn : xs.length = n) (hk : k < n) :
    ∃ b off x, A = some ⟨b, off, none⟩ ∧ b < w.heap.size ∧ Hid (xs[k]? = some x) ∧ w.cell? ⟨b, off + k * 4, none⟩ = some (.int .i64 x.Leave) ∧ w.cell? ⟨b, off + k * 4 + 1, none⟩ = some (.int .i64 x.From) ∧ w.cell? ⟨b, off + k * 4 + 2, none⟩ = some (.int .i64 x.To) ∧ w.cell? ⟨b, off + k * 4 + 3, none⟩ = some (.int .i64 x.Arrive) := by
  obtain ⟨b, off, x, e, hb, hx, hc⟩ := h.at_ Mail.len hn hk
  refine ⟨b, off, x, e, hb, hx, ?_, ?_, ?_, ?_⟩
  · have := hc 0 _ rfl
    simpa [Nat.add_assoc] using this
  · have := hc 1 _ rfl
    simpa [Nat.add_assoc] using this
  · have := hc 2 _ rfl
    simpa [Nat.add_assoc] using this
  · have := hc 3 _ rfl
    simpa [Nat.add_assoc] using this



end
end Go.Proofs.YtmgpdenofkloeaaDoor
