/- Structs of one-cell fields: made by wip/structs.py. -/
import Derived.Test.YtekfccfghmggmaaDoorOpen
import Derived.Test.YtekfccfghmggmaaDoorProg
namespace Go.Proofs.YtekfccfghmggmaaDoor
open Go.ChangeShapes Go.WideShapes Go.RowKit Go.Deep
set_option linter.unusedVariables false
set_option linter.unusedSimpArgs false
set_option maxRecDepth 100000
section
variable {H : Type} {enc : TypeId × Value → H} {w : World} {base : Nat} {spare : Nat → Bool} {held : Bool}

/-- Shade, as the program has it. -/
structure Shade where
  Name : ByteArray
  Hue : Int
  Width : Int
  Dark : Int
  Light : Int
def Shade.cs (x : Shade) : List Value := [.string x.Name, .int .i64 x.Hue, .int .i64 x.Width, .int .i64 x.Dark, .int .i64 x.Light]
theorem Shade.len (x : Shade) : x.cs.length = 5 := rfl
def Shade.Wf (x : Shade) : Prop := x.Name.size ≤ maxLen ∧ (Lit.int .i64 x.Hue).wf = true ∧ (Lit.int .i64 x.Width).wf = true ∧ (Lit.int .i64 x.Dark).wf = true ∧ (Lit.int .i64 x.Light).wf = true
theorem Shade.one (xs : List Shade) : ∀ u ∈ xs.flatMap Shade.cs, u.oneCell' = true := by
  intro u hu
  obtain ⟨x, _, hx⟩ := List.mem_flatMap.1 hu
  simp only [Shade.cs, List.mem_cons, List.not_mem_nil, or_false] at hx
  rcases hx with rfl | rfl | rfl | rfl | rfl <;> rfl
theorem Shade.at_ {A : Option Addr} {n k : Nat} {xs : List Shade} (h : Rd w A n 5 (xs.flatMap Shade.cs)) (hn : xs.length = n) (hk : k < n) :
    ∃ b off x, A = some ⟨b, off, none⟩ ∧ b < w.heap.size ∧ Hid (xs[k]? = some x) ∧ w.cell? ⟨b, off + k * 5, none⟩ = some (.string x.Name) ∧ w.cell? ⟨b, off + k * 5 + 1, none⟩ = some (.int .i64 x.Hue) ∧ w.cell? ⟨b, off + k * 5 + 2, none⟩ = some (.int .i64 x.Width) ∧ w.cell? ⟨b, off + k * 5 + 3, none⟩ = some (.int .i64 x.Dark) ∧ w.cell? ⟨b, off + k * 5 + 4, none⟩ = some (.int .i64 x.Light) := by
  obtain ⟨b, off, x, e, hb, hx, hc⟩ := h.at_ Shade.len hn hk
  refine ⟨b, off, x, e, hb, hx, ?_, ?_, ?_, ?_, ?_⟩
  · have := hc 0 _ rfl
    simpa [Nat.add_assoc] using this
  · have := hc 1 _ rfl
    simpa [Nat.add_assoc] using this
  · have := hc 2 _ rfl
    simpa [Nat.add_assoc] using this
  · have := hc 3 _ rfl
    simpa [Nat.add_assoc] using this
  · have := hc 4 _ rfl
    simpa [Nat.add_assoc] using this





end
end Go.Proofs.YtekfccfghmggmaaDoor
