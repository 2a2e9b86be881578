/- slices.Clone and slices.Delete at bans. -/
import Derived.Test.YtekggbmpogmlcaaDoorDead
import Derived.Deep.RegionLaw
import Derived.Lib.SliceRun
namespace Go.Proofs.YtekggbmpogmlcaaDoor
open Go.RowKit
set_option linter.unusedVariables false
set_option linter.unusedSimpArgs false
attribute [local go_sem] ExtOf.cell

theorem bans_len (bs : List Ban) : (bs.flatMap Ban.cs).length = bs.length * 4 := flat_length Ban.cs 4 Ban.len bs
theorem bans_one (bs : List Ban) : ∀ u ∈ bs.flatMap Ban.cs, u.oneCell' = true := by
  intro u hu
  obtain ⟨x, _, hx⟩ := List.mem_flatMap.1 hu
  simp only [Ban.cs, List.mem_cons, List.not_mem_nil, or_false] at hx
  rcases hx with rfl | rfl | rfl | rfl <;> rfl
end Go.Proofs.YtekggbmpogmlcaaDoor
