/- Structs of one-cell fields: made by wip/structs.py. -/
import Derived.Test.YtekggbmpogmlcaaDoorOpen
import Derived.Test.YtekggbmpogmlcaaDoorProg
namespace Go.Proofs.YtekggbmpogmlcaaDoor
open Go.ChangeShapes Go.WideShapes Go.RowKit Go.Deep
set_option linter.unusedVariables false
set_option linter.unusedSimpArgs false
set_option maxRecDepth 100000
section
variable {H : Type} {enc : TypeId × Value → H} {w : World} {base : Nat} {spare : Nat → Bool} {held : Bool}





/-- Ban, as the program has it. -/
structure Ban where
  A : Int
  X : Int
  B : Int
  Y : Int
def Ban.cs (x : Ban) : List Value := [.int .i64 x.A, .int .i64 x.X, .int .i64 x.B, .int .i64 x.Y]
theorem Ban.len (x : Ban) : x.cs.length = 4 := rfl
def Ban.Wf (x : Ban) : Prop := (Lit.int .i64 x.A).wf = true ∧ (Lit.int .i64 x.X).wf = true ∧ (Lit.int .i64 x.B).wf = true ∧ (Lit.int .i64 x.Y).wf = true
theorem Ban.one (xs : List Ban) : ∀ u ∈ xs.flatMap Ban.cs, u.oneCell' = true := by
  intro u hu
  obtain ⟨x, _, hx⟩ := List.mem_flatMap.1 hu
  simp only [Ban.cs, List.mem_cons, List.not_mem_nil, or_false] at hx
  rcases hx with rfl | rfl | rfl | rfl <;> rfl
theorem Ban.at_ {A : Option Addr} {n k : Nat} {xs : List Ban} (h : Rd w A n 4 (xs.flatMap Ban.cs)) (hn : xs.length = n) (hk : k < n) :
    ∃ b off x, A = some ⟨b, off, none⟩ ∧ b < w.heap.size ∧ Hid (xs[k]? = some x) ∧ w.cell? ⟨b, off + k * 4, none⟩ = some (.int .i64 x.A) ∧ w.cell? ⟨b, off + k * 4 + 1, none⟩ = some (.int .i64 x.X) ∧ w.cell? ⟨b, off + k * 4 + 2, none⟩ = some (.int .i64 x.B) ∧ w.cell? ⟨b, off + k * 4 + 3, none⟩ = some (.int .i64 x.Y) := by
  obtain ⟨b, off, x, e, hb, hx, hc⟩ := h.at_ Ban.len hn hk
  refine ⟨b, off, x, e, hb, hx, ?_, ?_, ?_, ?_⟩
  · have := hc 0 _ rfl
    simpa [Nat.add_assoc] using this
  · have := hc 1 _ rfl
    simpa [Nat.add_assoc] using this
  · have := hc 2 _ rfl
    simpa [Nat.add_assoc] using this
  · have := hc 3 _ rfl
    simpa [Nat.add_assoc] using this

end
end Go.Proofs.YtekggbmpogmlcaaDoor
