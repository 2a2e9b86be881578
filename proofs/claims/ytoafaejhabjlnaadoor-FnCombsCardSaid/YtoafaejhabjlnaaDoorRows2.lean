/- Results that are lists of texts. -/
import Derived.Test.YtoafaejhabjlnaaDoorMark2
namespace Go.Proofs.YtoafaejhabjlnaaDoor
open Go.RowKit
set_option linter.unusedVariables false
set_option linter.unusedSimpArgs false

/-- A slice of new memory, and whether there is one. -/
def RowPost (T size : Nat) (cs : List Value) (ok : Bool) (w : World) (e : Ending) (w' : World) : Prop :=
  ∃ (A : Option Addr) (m c : Nat), e = .returned (.tuple #[.slice A m c, .bool ok]) ∧ w'.ownsRow w.heap.size T size (.slice A m c) m cs ∧ Ext w w'
theorem own_nil (w : World) (base T size : Nat) : w.ownsRow base T size (.slice none 0 0) 0 [] := ⟨by simp, .inl ⟨rfl, rfl⟩⟩
theorem own_empty (w : World) (base T size : Nat) (h : base ≤ w.heap.size) : (w.alloc (.cells #[] T)).ownsRow base T size (.slice (some ⟨w.heap.size, 0, none⟩) 0 0) 0 [] :=
  ⟨by simp, .inr ⟨w.heap.size, 0, #[], rfl, h, heap_alloc_new w _, Nat.le_refl _, Nat.zero_le _, by simp, by simp⟩⟩
theorem Ext.pushed {w wr w' : World} {T size m : Nat} {A : Option Addr} {c : Nat} {cs : List Value} (h : Ext w wr) (ho : wr.ownsRow w.heap.size T size (.slice A m c) m cs) (hg : wr.grownBy w' (Value.ownBlock (.slice A m c))) : Ext w w' :=
  h.grown hg (fun k hk => (ho.lt k hk).1)
theorem ne_row {v : Value} {g : Nat} (h : ∀ k, v.ownBlock = some k → k ≠ g) : v.ownBlock = none ∨ v.ownBlock ≠ some g := by
  cases hv : v.ownBlock with
  | none => exact .inl rfl
  | some k => right; intro e; injection e with e; exact h k hv e
theorem ne_blocks {v u : Value} {B : Nat} (h : ∀ k, v.ownBlock = some k → k < B) (h' : ∀ k, u.ownBlock = some k → B ≤ k) : v.ownBlock = none ∨ v.ownBlock ≠ u.ownBlock := by
  cases hv : v.ownBlock with
  | none => exact .inl rfl
  | some k => right; intro e; have := h k hv; have := h' k e.symm; omega
/-- An owned row is a slice value. -/
theorem own_slice {w : World} {base T size n : Nat} {v : Value} {cs : List Value} (h : w.ownsRow base T size v n cs) : ∃ A c, v = .slice A n c := by
  rcases h.2 with ⟨h1, h2⟩ | ⟨g, cap, cur, h1, _⟩
  · subst h2; exact ⟨none, 0, h1⟩
  · exact ⟨_, _, h1⟩
theorem own_cap {w : World} {base T size n : Nat} {v : Value} {cs : List Value} (h : w.ownsRow base T size v n cs) : n ≤ maxLen := by
  rcases h.2 with ⟨_, h2⟩ | ⟨g, cap, cur, _, _, _, h3, h4, _⟩ <;> omega
theorem cell1 (w : World) (u : Value) (T : TypeId) : ∀ (j : Nat) (v : Value), [u][j]? = some v → (w.alloc (.cells #[u] T)).cell? ((⟨w.heap.size, 0, none⟩ : Addr).add j) = some v := by
  intro j v hv
  have hj : j = 0 := by
    have := (List.getElem?_eq_some_iff.1 hv).1
    simpa using this
  subst hj
  simp at hv; subst hv
  rw [Addr.add_zero', cell_of_row _ _ _ _ _ _ (heap_alloc_new w _)]
  rfl
end Go.Proofs.YtoafaejhabjlnaaDoor
