/- One number appended to a list of the call's own. -/
import Derived.Test.YtoafaejhabjlnaaDoorIdx
import Derived.Maps.AppendAt
namespace Go.Proofs.YtoafaejhabjlnaaDoor
open Go.RowKit
set_option linter.unusedVariables false
set_option linter.unusedSimpArgs false

/-- The block of a slice is another than g. -/
def Off (A : Option Addr) (g : Nat) : Prop := ∀ b o s, A = some ⟨b, o, s⟩ → b ≠ g
theorem Off.nil (g : Nat) : Off none g := fun b o s h => by cases h
theorem Off.lt {b o g : Nat} (h : b < g) : Off (some ⟨b, o, none⟩) g := fun b' o' s' e => by injection e with e; injection e with e1 e2; omega
theorem Off.ne {b o g : Nat} (h : b ≠ g) : Off (some ⟨b, o, none⟩) g := fun b' o' s' e => by injection e with e; injection e with e1 e2; omega
theorem Off.row {A : Option Addr} {g m c : Nat} (h : Off A g) : Value.ownBlock (.slice A m c) = none ∨ Value.ownBlock (.slice A m c) ≠ some g := by
  cases A with
  | none => exact .inl rfl
  | some a =>
    right
    obtain ⟨b, o, s⟩ := a
    intro e
    exact h b o s rfl (by injection e)
theorem Off.apart {A : Option Addr} {g m c m' c' : Nat} (h : Off A g) : Value.ownBlock (.slice (some ⟨g, 0, none⟩) m' c') = none ∨ Value.ownBlock (.slice (some ⟨g, 0, none⟩) m' c') ≠ Value.ownBlock (.slice A m c) := by
  right
  rcases h.row (m := m) (c := c) with k | k
  · rw [k]; intro e; cases e
  · exact fun e => k e.symm
theorem Off.own {w : World} {A : Option Addr} {base T size m c n g : Nat} {cs : List Value} (h : w.ownsRow base T size (.slice A m c) n cs) (hg : w.heap.size ≤ g) : Off A g := by
  intro b o s e
  subst e
  have := (h.lt b rfl).2
  omega
theorem grown_cell {w w' : World} {A : Option Addr} {m c : Nat} (hg : w.grownBy w' (Value.ownBlock (.slice A m c))) {g o : Nat} (hoff : Off A g) {u : Value} (h : w.cell? ⟨g, o, none⟩ = some u) : w'.cell? ⟨g, o, none⟩ = some u := by
  have hlt : g < w.heap.size := World.block_lt_of_cell? w _ h
  have hne : some g ≠ Value.ownBlock (.slice A m c) := by
    intro e
    rcases hoff.row (m := m) (c := c) with k | k
    · rw [← e] at k; cases k
    · exact k e.symm
  exact (World.cell?_of_block (hg.block g hlt hne)).trans h
theorem app_int {ops : Array Oper} {rest : List Oper} {o : Oper} {a : Act} {w : World} {Q : Exit → Act → World → Prop} (hgd : o.guard = none) (s x : Operand)
    (ho : o.op = .call { callee := .builtin .append, args := #[s, x], argTypes := #[27, 27] })
    (base m oc g : Nat) (A : Option Addr) (l : List Int) (v : Int) (hs : a.eval s = .slice A m oc) (hx : a.eval x = .slice (some ⟨g, 0, none⟩) 1 1)
    (hown : w.ownsRow base 3 1 (.slice A m oc) m (ints l)) (hc : w.cell? ⟨g, 0, none⟩ = some (.int .i64 v)) (hm : m ≤ 100000000) (hb : base ≤ w.heap.size)
    (h : ∀ A' c' w', w'.ownsRow base 3 1 (.slice A' (m + 1) c') (m + 1) (ints (l ++ [v])) → w.grownBy w' (Value.ownBlock (.slice A m oc)) → (∀ gg, Off A gg → gg < w.heap.size → Off A' gg) → wpList Tryd.prog ops Q rest (a.put o.dst (.slice A' (m + 1) c')) w') : wpList Tryd.prog ops Q (o :: rest) a w := by
  obtain ⟨i0, hi, hz0, hz1, hz2⟩ := info_parts intInfo
  refine wpList_append_own_at w hgd s x 27 ho base 3 i0 (.int .i64 0) 1 8 Tryd.underlying27 hi hz0 hz1 hz2 rfl (by decide) (.slice A m oc) m (ints l) hs hown ⟨g, 0, none⟩ 1 1 [.int .i64 v] hx rfl ?_ ?_ ?_ ?_ hb ?_
  · intro j u hj
    obtain rfl : j = 0 := by have := (List.getElem?_eq_some_iff.1 hj).1; simpa using this
    simp at hj; subst hj
    rw [Addr.add_zero']; exact hc
  · intro u hu; simp at hu; subst hu; rfl
  · unfold maxLen; omega
  · omega
  · intro v' w' h1 h2 h3 h4
    obtain ⟨A', c', rfl⟩ := own_slice h1
    refine h A' c' w' ?_ h2 ?_
    · rw [show ints (l ++ [v]) = ints l ++ [.int .i64 v] by simp [ints]]; exact h1
    · intro gg hA hlt b o s e
      subst e
      rcases h4 with h4 | h4
      · rcases hA.row (m := m) (c := oc) with k | k
        · rw [← h4] at k; cases k
        · rw [← h4] at k; intro e; apply k; rw [e]; rfl
      · injection h4 with h4
        show b ≠ gg
        have : b = w.heap.size := h4
        omega
end Go.Proofs.YtoafaejhabjlnaaDoor
