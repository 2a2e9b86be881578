/- A slice of bytes as an argument. -/
import Derived.Test.YtoafaejhabjlnaaDoorOpen
import Derived.Test.YtoafaejhabjlnaaDoorCur
import Derived.Test.YtoafaejhabjlnaaDoorProg
namespace Go.Proofs.YtoafaejhabjlnaaDoor
open Go.ChangeShapes Go.WideShapes Go.RowKit Go.Deep
set_option linter.unusedVariables false
set_option linter.unusedSimpArgs false
theorem bys_flat (l : List Int) : bys l = l.flatMap (fun v => [Value.int .u8 v]) := by
  induction l with
  | nil => rfl
  | cons a l ih => simp only [bys, List.map_cons, List.flatMap_cons] at *; rw [ih]; rfl
section
variable {H : Type} {enc : TypeId × Value → H} {P : Program} {w : World} {base : Nat} {spare : Nat → Bool} {held : Bool}
theorem trod_bytes {t e : TypeId} {fuel : Nat} {u : Value} {y : DataW H × List MemPlace} (ht : P.underlying t = some (.slice e)) (he : P.underlying e = some (.int .u8)) (hC : P.cellsOf e = 1)
    (hf' : DataW.trod enc P w base spare held fuel t [u] = some y) :
    ∃ (A : Option Addr) (n c : Nat) (xs : List Int), u = .slice A n c ∧ n ≤ c ∧ c ≤ maxLen ∧ xs.length = n ∧ (∀ x ∈ xs, (Lit.int .u8 x).wf = true) ∧ Rd w A n 1 (bys xs) := by
  rcases open_slice ht hf' with ⟨hcs, _⟩ | ⟨a, n, c, m, n', D, Pl, hcs, hb, hl, hm, hmm, hx, hi⟩
  · simp at hcs
    exact ⟨none, 0, 0, [], hcs, Nat.le_refl _, Nat.zero_le _, rfl, by simp, Rd.nil _ _ _⟩
  · simp at hcs
    obtain ⟨xs, h1, h2, h3⟩ := rd_of (w := w) (a := a) (n := n) (f := fun v => [Value.int .u8 v]) (G := fun x => (Lit.int .u8 x).wf = true) (by decide : 0 < 1) (fun _ => rfl) (fun i hi' => by
      obtain ⟨cs', hc, ht'⟩ := hi i (by rw [hmm]; split <;> omega)
      rw [hC] at hc
      obtain ⟨_, hcl, hat⟩ := World.cells?_some hc
      obtain ⟨u, rfl⟩ : ∃ u, cs' = [u] := by
        match cs', hcl with
        | [u], _ => exact ⟨u, rfl⟩
      obtain ⟨x, rfl, hw⟩ := trod_u8 he ht'
      refine ⟨x, hw, fun j u hu => ?_⟩
      have hj : j < 1 := (List.getElem?_eq_some_iff.1 hu).1
      have := hat j hj
      rw [hu] at this
      rw [← Go.Deep.add_add]
      exact this)
    exact ⟨some a, n, c, xs, hcs, hl, hm, h1, h2, by rw [bys_flat]; exact h3⟩
theorem open_bytesP {r : Reach} {b0 : Nat} {t e : TypeId} {v : Value} {d : DataW H} {p : List MemPlace} (ht : P.underlying t = some (.slice e)) (he : P.underlying e = some (.int .u8)) (hC : P.cellsOf e = 1)
    (hv : Value.okWide P w r b0 t v) (h : DataW.Trod enc P w base spare held t v d p) :
    ∃ (A : Option Addr) (n c : Nat) (xs : List Int), v = .slice A n c ∧ n ≤ c ∧ c ≤ maxLen ∧ xs.length = n ∧ (∀ x ∈ xs, (Lit.int .u8 x).wf = true) ∧ Rd w A n 1 (bys xs) := by
  obtain ⟨A, n, c, rfl⟩ := okWide_slice ht hv
  obtain ⟨fuel, hf'⟩ := h
  exact trod_bytes ht he hC hf'
set_option maxRecDepth 100000 in
theorem open_bytes {r : Reach} {b0 : Nat} {v : Value} {d : DataW H} {p : List MemPlace} (hv : Value.okWide Tryd.prog w r b0 22 v) (h : DataW.Trod enc Tryd.prog w base spare held 22 v d p) :
    ∃ (A : Option Addr) (n c : Nat) (xs : List Int), v = .slice A n c ∧ n ≤ c ∧ c ≤ maxLen ∧ xs.length = n ∧ (∀ x ∈ xs, (Lit.int .u8 x).wf = true) ∧ Rd w A n 1 (bys xs) :=
  open_bytesP Tryd.underlying22 Tryd.underlying5 (by kernel_rfl) hv h
theorem codeOk {A : Option Addr} {n c : Nat} {l : List Int} (h1 : n ≤ c) (h2 : c ≤ maxLen) (h3 : ∀ x ∈ l, (Lit.int .u8 x).wf = true) (h4 : Rd w A n 1 (bys l)) : CodeOk w A n l :=
  ⟨Nat.le_trans h1 h2, h4, fun x hx => bounds_u8 (h3 x hx)⟩
end
end Go.Proofs.YtoafaejhabjlnaaDoor
