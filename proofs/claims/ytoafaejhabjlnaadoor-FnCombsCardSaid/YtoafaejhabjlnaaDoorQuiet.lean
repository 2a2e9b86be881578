/- Regions that draw their order and hold calls that make memory: the class of worlds is 'w with new blocks'. -/
import Derived.Test.YtoafaejhabjlnaaDoorMem2
import Derived.Deep.Quiet
import Derived.Deep.QuietTactic
import Derived.BigQuiet
namespace Go.Proofs.YtoafaejhabjlnaaDoor
open Go.RowKit
set_option linter.unusedVariables false
set_option linter.unusedSimpArgs false

/-- The worlds that are w with new blocks. -/
structure ExtOf (w : World) where
  val : World
  ext : Ext w val
instance (w : World) : Nonempty (ExtOf w) := ⟨⟨w, Ext.refl w⟩⟩
theorem ExtOf.cell {w : World} (e : ExtOf w) (b o : Nat) (h : b < w.heap.size) : e.val.cell? ⟨b, o, none⟩ = w.cell? ⟨b, o, none⟩ := e.ext.cells b o h
theorem ext_call {P : Program} {f : FuncId} {args : Array Value} {w : World} {e : ExtOf w} {v : Value}
    (h : Calls P f args e.val fun x w' => x = .returned v ∧ Ext e.val w') : Calls P f args e.val fun x w'' => x = .returned v ∧ ∃ e' : ExtOf w, w'' = e'.val :=
  h.mono fun _ w' ⟨he, hw⟩ => ⟨he, ⟨w', e.ext.trans hw⟩, rfl⟩
theorem ext_call_same {P : Program} {f : FuncId} {args : Array Value} {w : World} {e : ExtOf w} {v : Value}
    (h : Calls P f args e.val fun x w' => x = .returned v ∧ e.val = w') : Calls P f args e.val fun x w'' => x = .returned v ∧ ∃ e' : ExtOf w, w'' = e'.val :=
  h.mono fun _ w' ⟨he, hw⟩ => ⟨he, e, hw.symm⟩
theorem wp_region_ext_lit {P : Program} {id : Nat} {Q : Exit → Act → World → Prop} {a : Act} {w : World} {l : List Oper} (hm : P.follows .mixedOrders = true) (hB : Region.lexB .any l.toArray = true)
    (h : wpQuiet P l.toArray (fun w' => ∃ e : ExtOf w, w' = e.val) (fun a' => ∀ w', (∃ e : ExtOf w, w' = e.val) → Q .normal a' w') l a) : (Code.region id l.toArray true).wp P Q a w :=
  wp_region_quiet (C := fun w' => ∃ e : ExtOf w, w' = e.val) hm hB ⟨⟨_, (Ext.refl w).drew⟩, rfl⟩ (by simpa using h)
end Go.Proofs.YtoafaejhabjlnaaDoor
