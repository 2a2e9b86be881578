/- Tables of kinds: opened, copied, compared. -/
import Derived.Test.YtekggbmpogmlcaaDoorOpenI
import Derived.Test.YtekggbmpogmlcaaDoorBanL
import Derived.Test.YtekggbmpogmlcaaDoorApp
import Derived.Test.YtekggbmpogmlcaaDoorStructs
namespace Go.Proofs.YtekggbmpogmlcaaDoor
open Go.ChangeShapes Go.WideShapes Go.RowKit Go.Deep
set_option linter.unusedVariables false
set_option linter.unusedSimpArgs false
attribute [local go_sem] ExtOf.cell
set_option maxRecDepth 100000

section
variable {H : Type} {enc : TypeId × Value → H} {P : Program} {w : World} {base : Nat} {spare : Nat → Bool} {held : Bool}
theorem trod_structs {t e : TypeId} {fs : Array Field} {fuel : Nat} {u : Value} {y : DataW H × List MemPlace} {α : Type} {f : α → List Value} {G : α → Prop}
    (ht : P.underlying t = some (.slice e)) (he : P.underlying e = some (.struct fs)) (hone : oneCellFields P fs = true) (hC : P.cellsOf e = fs.size) (hsz : 0 < fs.size) (hf : ∀ x, (f x).length = fs.size)
    (hG : ∀ us : List Value, us.length = fs.size → (∀ (j : Nat) (g : Field), fs[j]? = some g → ∃ u n y, us[j]? = some u ∧ DataW.trod enc P w base spare held n g.type [u] = some y) → ∃ x, us = f x ∧ G x)
    (hf' : DataW.trod enc P w base spare held fuel t [u] = some y) :
    ∃ (A : Option Addr) (n c : Nat) (xs : List α), u = .slice A n c ∧ n ≤ c ∧ c ≤ maxLen ∧ xs.length = n ∧ (∀ x ∈ xs, G x) ∧ Rd w A n fs.size (xs.flatMap f) := by
  rcases open_slice ht hf' with ⟨hcs, _⟩ | ⟨a, n, c, m, n', D, Pl, hcs, hb, hl, hm, hmm, hx, hi⟩
  · simp at hcs
    exact ⟨none, 0, 0, [], hcs, Nat.le_refl _, Nat.zero_le _, rfl, by simp, Rd.nil _ _ _⟩
  · simp at hcs
    obtain ⟨xs, h1, h2, h3⟩ := rd_of (w := w) (a := a) (n := n) (f := f) (G := G) hsz hf (fun i hi' => by
      obtain ⟨cs', hc, ht'⟩ := hi i (by rw [hmm]; split <;> omega)
      rw [hC] at hc
      obtain ⟨_, hcl, hat⟩ := World.cells?_some hc
      obtain ⟨ys, n2, _, _, _, hyl, hff⟩ := DataW.trod_struct he ht'
      obtain ⟨x, rfl, hg⟩ := hG cs' (by omega) (fun j g hj => by
        have hl : j < fs.size := (Array.getElem?_eq_some_iff.1 hj).1
        obtain ⟨o0, k0⟩ := hone_of hone j g hj
        have h1 := hff j g hj
        rw [o0, k0] at h1
        have hone' : (cs'.drop j).take 1 = [cs'[j]'(by omega)] := by
          rw [List.drop_eq_getElem_cons (by omega)]
          rfl
        rw [hone'] at h1
        have hxs : ys[j]? = some (ys[j]'(by omega)) := List.getElem?_eq_getElem (by omega)
        exact ⟨_, _, _, List.getElem?_eq_getElem (by omega), h1.trans hxs⟩)
      refine ⟨x, hg, fun j u hu => ?_⟩
      have hj : j < fs.size := by
        have := (List.getElem?_eq_some_iff.1 hu).1
        rw [hf] at this; exact this
      have := hat j hj
      rw [hu] at this
      rw [← Go.Deep.add_add]
      exact this)
    exact ⟨some a, n, c, xs, hcs, hl, hm, h1, h2, h3⟩
end
/-- A table in memory. -/
structure TabL (w : World) (A : Option Addr) (n : Nat) (B : Option Addr) (m : Nat) (ss : List Int) (bs : List Ban) : Prop where
  sl : ss.length = n
  sm : n ≤ 1048576
  sw : ∀ x ∈ ss, (Lit.int .i64 x).wf = true
  sr : Rd w A n 1 (ints ss)
  bl : BanL w B m bs
theorem TabL.ext {w w' : World} {A : Option Addr} {n : Nat} {B : Option Addr} {m : Nat} {ss : List Int} {bs : List Ban} (h : TabL w A n B m ss bs) (he : Ext w w') : TabL w' A n B m ss bs := ⟨h.sl, h.sm, h.sw, h.sr.ext he, h.bl.ext he⟩


theorem own_low' {w : World} {b b' T size n : Nat} {v : Value} {cs : List Value} (h : w.ownsRow b T size v n cs) (hb : b' ≤ b) : w.ownsRow b' T size v n cs := by
  refine ⟨h.1, ?_⟩
  rcases h.2 with h2 | ⟨g, cap, cur, h1, h2, h3⟩
  · exact .inl h2
  · exact .inr ⟨g, cap, cur, h1, Nat.le_trans hb h2, h3⟩
theorem own_block (w : World) (T : TypeId) (cs : List Value) : (w.alloc (.cells cs.toArray T)).ownsRow w.heap.size T cs.length (.slice (some ⟨w.heap.size, 0, none⟩) 1 1) 1 cs :=
  ⟨by simp, .inr ⟨w.heap.size, 1, cs.toArray, rfl, Nat.le_refl _, heap_alloc_new w _, Nat.le_refl _, by unfold maxLen; omega, by simp, by simp⟩⟩
theorem own_at {w : World} {base T size n g c : Nat} {cs : List Value} (h : w.ownsRow base T size (.slice (some ⟨g, 0, none⟩) n c) n cs) {j : Nat} {v : Value} (hj : cs[j]? = some v) : w.cell? ⟨g, j, none⟩ = some v := by
  have hl := (List.getElem?_eq_some_iff.1 hj).1
  rw [h.cellAt j (by have := h.1; omega)]
  exact hj

end Go.Proofs.YtekggbmpogmlcaaDoor
