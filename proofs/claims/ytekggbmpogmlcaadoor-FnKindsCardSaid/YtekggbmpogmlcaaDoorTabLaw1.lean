/- The law of IsKindTable. -/
import Derived.Test.YtekggbmpogmlcaaDoorTabY
import Derived.Deep.RegionHeld3
namespace Go.Proofs.YtekggbmpogmlcaaDoor
open Go.RowKit
set_option linter.unusedVariables false
set_option linter.unusedSimpArgs false
attribute [local go_sem] ExtOf.cell

set_option maxHeartbeats 400000 in
theorem IsKindTableI_any (A : Option Addr) (n c : Nat) (B : Option Addr) (m d : Nat) (ss : List Int) (bs : List Ban) (w : World) (h : TabL w A n B m ss bs) :
    Calls Tryd.prog 8 #[.agg #[.slice A n c, .slice B m d]] w fun e w' => e = .returned (.bool (TabOk ss bs)) ∧ Ext w w' := by
  have eW := (Ext.refl w).alloc (.cells #[.slice A n c, .slice B m d] 27)
  have C := Lib.hid (isKindTable_any w.heap.size A n c B m d ss bs _ (h.ext eW) (new_cell _ _ _ 0 _ rfl) (new_cell _ _ _ 1 _ rfl))
  go_enter Tryd.func8, Tryd.ntmps8
  go_wp2_with (go_at_call 21; refine C.out.mono ?_; rintro e we ⟨rfl, he⟩)
  go_ret
  exact ⟨rfl, eW.trans he⟩
set_option maxHeartbeats 400000 in
theorem IsKindTableS_any (A : Option Addr) (n c : Nat) (B : Option Addr) (m d : Nat) (ss : List Int) (bs : List Ban) (w : World) (h : TabL w A n B m ss bs) :
    Calls Tryd.prog 9 #[.agg #[.slice A n c, .slice B m d]] w fun e w' => e = .returned (.bool (TabOk ss bs)) ∧ Ext w w' := by
  have eW := (Ext.refl w).alloc (.cells #[.slice A n c, .slice B m d] 27)
  have C := Lib.hid (l6Good_any A n c B m d ss bs _ (h.ext eW))
  go_enter Tryd.func9, Tryd.ntmps9
  go_wp2_with (go_at_call 23; refine C.out.mono ?_; rintro e we ⟨rfl, he⟩)
  go_ret
  exact ⟨rfl, eW.trans he⟩
end Go.Proofs.YtekggbmpogmlcaaDoor
