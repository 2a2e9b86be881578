/- A slice of numbers as an argument. -/
import Derived.Test.YtekggbmpogmlcaaDoorOpen
import Derived.Test.YtekggbmpogmlcaaDoorIntS
import Derived.Test.YtekggbmpogmlcaaDoorProg
namespace Go.Proofs.YtekggbmpogmlcaaDoor
open Go.ChangeShapes Go.WideShapes Go.RowKit Go.Deep
set_option linter.unusedVariables false
set_option linter.unusedSimpArgs false
theorem ints_flat (l : List Int) : ints l = l.flatMap (fun v => [Value.int .i64 v]) := by
  induction l with
  | nil => rfl
  | cons a l ih => simp only [ints, List.map_cons, List.flatMap_cons] at *; rw [ih]; rfl
section
variable {H : Type} {enc : TypeId × Value → H} {P : Program} {w : World} {base : Nat} {spare : Nat → Bool} {held : Bool}
theorem trod_ints {t e : TypeId} {fuel : Nat} {u : Value} {y : DataW H × List MemPlace} (ht : P.underlying t = some (.slice e)) (he : P.underlying e = some (.int .i64)) (hC : P.cellsOf e = 1)
    (hf' : DataW.trod enc P w base spare held fuel t [u] = some y) :
    ∃ (A : Option Addr) (n c : Nat) (xs : List Int), u = .slice A n c ∧ n ≤ c ∧ c ≤ maxLen ∧ xs.length = n ∧ (∀ x ∈ xs, (Lit.int .i64 x).wf = true) ∧ Rd w A n 1 (ints xs) := by
  rcases open_slice ht hf' with ⟨hcs, _⟩ | ⟨a, n, c, m, n', D, Pl, hcs, hb, hl, hm, hmm, hx, hi⟩
  · simp at hcs
    exact ⟨none, 0, 0, [], hcs, Nat.le_refl _, Nat.zero_le _, rfl, by simp, Rd.nil _ _ _⟩
  · simp at hcs
    obtain ⟨xs, h1, h2, h3⟩ := rd_of (w := w) (a := a) (n := n) (f := fun v => [Value.int .i64 v]) (G := fun x => (Lit.int .i64 x).wf = true) (by decide : 0 < 1) (fun _ => rfl) (fun i hi' => by
      obtain ⟨cs', hc, ht'⟩ := hi i (by rw [hmm]; split <;> omega)
      rw [hC] at hc
      obtain ⟨_, hcl, hat⟩ := World.cells?_some hc
      obtain ⟨u, rfl⟩ : ∃ u, cs' = [u] := by
        match cs', hcl with
        | [u], _ => exact ⟨u, rfl⟩
      obtain ⟨x, rfl, hw⟩ := trod_i64 he ht'
      refine ⟨x, hw, fun j u hu => ?_⟩
      have hj : j < 1 := (List.getElem?_eq_some_iff.1 hu).1
      have := hat j hj
      rw [hu] at this
      rw [← Go.Deep.add_add]
      exact this)
    exact ⟨some a, n, c, xs, hcs, hl, hm, h1, h2, by rw [ints_flat]; exact h3⟩
theorem open_intsP {r : Reach} {b0 : Nat} {t e : TypeId} {v : Value} {d : DataW H} {p : List MemPlace} (ht : P.underlying t = some (.slice e)) (he : P.underlying e = some (.int .i64)) (hC : P.cellsOf e = 1)
    (hv : Value.okWide P w r b0 t v) (h : DataW.Trod enc P w base spare held t v d p) :
    ∃ (A : Option Addr) (n c : Nat) (xs : List Int), v = .slice A n c ∧ n ≤ c ∧ c ≤ maxLen ∧ xs.length = n ∧ (∀ x ∈ xs, (Lit.int .i64 x).wf = true) ∧ Rd w A n 1 (ints xs) := by
  obtain ⟨A, n, c, rfl⟩ := okWide_slice ht hv
  obtain ⟨fuel, hf'⟩ := h
  exact trod_ints ht he hC hf'
set_option maxRecDepth 100000 in
theorem open_ints {r : Reach} {b0 : Nat} {v : Value} {d : DataW H} {p : List MemPlace} (hv : Value.okWide Tryd.prog w r b0 24 v) (h : DataW.Trod enc Tryd.prog w base spare held 24 v d p) :
    ∃ (A : Option Addr) (n c : Nat) (xs : List Int), v = .slice A n c ∧ n ≤ c ∧ c ≤ maxLen ∧ xs.length = n ∧ (∀ x ∈ xs, (Lit.int .i64 x).wf = true) ∧ Rd w A n 1 (ints xs) :=
  open_intsP Tryd.underlying24 Tryd.underlying3 (by kernel_rfl) hv h
end
end Go.Proofs.YtekggbmpogmlcaaDoor
