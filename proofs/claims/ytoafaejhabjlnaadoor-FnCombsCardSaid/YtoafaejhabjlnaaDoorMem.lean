/- Memory words of my own: a world with new blocks; a slice that reads as a list; lists built up in loops. -/
import Derived.Test.YtoafaejhabjlnaaDoorPlain
import Derived.Deep.AppendLies
import Derived.Deep.Draws
import Derived.Maps.AppendAt
import Derived.Lib.Hide
import Derived.Deep.QuietTactic
namespace Go.Proofs.YtoafaejhabjlnaaDoor
open Go.RowKit
set_option linter.unusedVariables false
set_option linter.unusedSimpArgs false

/-- w' is w with new blocks: every old block is as it was. -/
def Ext (w w' : World) : Prop := Below w.heap.size w w'
theorem Ext.refl (w : World) : Ext w w := Below.refl _ _
theorem Ext.size {w w' : World} (h : Ext w w') : w.heap.size ≤ w'.heap.size := Below.size h
theorem Ext.trans {a b c : World} (h : Ext a b) (k : Ext b c) : Ext a c := Below.trans h (Below.mono k h.size)
theorem Ext.alloc {a w : World} (h : Ext a w) (o : Obj) : Ext a (w.alloc o) := Below.alloc h h.size o
theorem Ext.drew {a w : World} (h : Ext a w) : Ext a w.drew := Below.drew h
theorem Ext.drewN {a w : World} (h : Ext a w) (n : Nat) : Ext a (w.drewN n) := by
  obtain ⟨h1, h2, h3, h4, h5⟩ := h
  exact ⟨h1, h2, h3, h4, h5⟩
theorem Ext.set {a w : World} (h : Ext a w) {p : Addr} (hp : a.heap.size ≤ p.block) (u : Value) : Ext a (w.setCell p u) := Below.setCell h hp u
theorem Ext.cells {w w' : World} (h : Ext w w') : ∀ b o, b < w.heap.size → w'.cell? ⟨b, o, none⟩ = w.cell? ⟨b, o, none⟩ := fun b o hb => Below.cell (p := ⟨b, o, none⟩) h hb
theorem Ext.frz {w w' : World} (h : Ext w w') : ∀ b o, b < w.heap.size → w'.frozen? ⟨b, o, none⟩ = w.frozen? ⟨b, o, none⟩ := fun b o hb => Below.frozen (p := ⟨b, o, none⟩) h hb
theorem Ext.block {w w' : World} (h : Ext w w') {k : Nat} (hk : k < w.heap.size) : w'.heap[k]? = w.heap[k]? := Below.block h k hk
theorem Ext.grown {a w w' : World} {row : Option Nat} (h : Ext a w) (hg : w.grownBy w' row) (hr : ∀ k, row = some k → a.heap.size ≤ k) : Ext a w' := Below.grown h hg h.size hr
theorem Ext.below {w w' : World} (h : Ext w w') : Below w.heap.size w w' := h
theorem Ext.of {w w' : World} (h : Below w.heap.size w w') : Ext w w' := h
theorem Ext.cell1 {w w' : World} (h : Ext w w') {b o : Nat} {u : Value} (hc : w.cell? ⟨b, o, none⟩ = some u) : w'.cell? ⟨b, o, none⟩ = some u := by
  rw [h.cells b o (World.block_lt_of_cell? w _ hc)]; exact hc

/-- The slice value '.slice A n c' reads as the cells cs ('size' cells an element). -/
def Rd (w : World) (A : Option Addr) (n size : Nat) (cs : List Value) : Prop :=
  cs.length = n * size ∧ (0 < n → ∃ b off, A = some ⟨b, off, none⟩ ∧ b < w.heap.size ∧ ∀ j u, cs[j]? = some u → w.cell? ⟨b, off + j, none⟩ = some u)
theorem Rd.nil (w : World) (A : Option Addr) (size : Nat) : Rd w A 0 size [] := ⟨by simp, fun h => absurd h (by omega)⟩
theorem Rd.ext {w w' : World} {A : Option Addr} {n size : Nat} {cs : List Value} (h : Rd w A n size cs) (he : Ext w w') : Rd w' A n size cs :=
  ⟨h.1, fun hn => by
    obtain ⟨b, off, e, hb, hc⟩ := h.2 hn
    exact ⟨b, off, e, Nat.lt_of_lt_of_le hb he.size, fun j u hu => (he.cells b _ hb).trans (hc j u hu)⟩⟩
theorem Rd.own {w : World} {base : Nat} {e : TypeId} {A : Option Addr} {n c size : Nat} {cs : List Value} (h : w.ownsRow base e size (.slice A n c) n cs) : Rd w A n size cs := by
  refine ⟨h.1, fun hn => ?_⟩
  obtain ⟨g, cap, hv, hb, hlt⟩ := h.form hn
  have hA : A = some ⟨g, 0, none⟩ := by injection hv
  subst hA
  refine ⟨g, 0, rfl, hlt, fun j u hu => ?_⟩
  have := h.cells (g := g) rfl j u hu
  rw [Nat.zero_add]
  have hadd : (⟨g, 0, none⟩ : Addr).add j = ⟨g, j, none⟩ := by unfold Addr.add; split <;> simp_all
  rwa [hadd] at this

theorem flat_length {α β : Type} (f : α → List β) (size : Nat) (hf : ∀ x, (f x).length = size) (xs : List α) : (xs.flatMap f).length = xs.length * size := by
  induction xs with
  | nil => simp
  | cons x xs ih => simp [List.flatMap_cons, hf, ih, Nat.add_mul]; omega
theorem flat_get {α β : Type} (f : α → List β) (size : Nat) (hf : ∀ x, (f x).length = size) : ∀ (xs : List α) (k j : Nat) (x : α), xs[k]? = some x → j < size → (xs.flatMap f)[k * size + j]? = (f x)[j]?
  | [], k, j, x, hx, hj => by simp at hx
  | y :: ys, 0, j, x, hx, hj => by
    simp at hx; subst hx
    rw [List.flatMap_cons, List.getElem?_append_left (by rw [hf]; omega)]
    simp
  | y :: ys, k + 1, j, x, hx, hj => by
    simp at hx
    rw [List.flatMap_cons, List.getElem?_append_right (by rw [hf, Nat.add_mul]; omega), hf]
    rw [← flat_get f size hf ys k j x hx hj]
    congr 1
    rw [Nat.add_mul]; omega
theorem Rd.at_ {α : Type} {w : World} {A : Option Addr} {n size k : Nat} {f : α → List Value} {xs : List α} (h : Rd w A n size (xs.flatMap f)) (hf : ∀ x, (f x).length = size) (hn : xs.length = n) (hk : k < n) :
    ∃ b off x, A = some ⟨b, off, none⟩ ∧ b < w.heap.size ∧ xs[k]? = some x ∧ ∀ j u, (f x)[j]? = some u → w.cell? ⟨b, off + (k * size + j), none⟩ = some u := by
  obtain ⟨b, off, e, hb, hc⟩ := h.2 (by omega)
  have hx : xs[k]? = some xs[k] := List.getElem?_eq_getElem (by omega)
  refine ⟨b, off, xs[k], e, hb, hx, fun j u hu => hc _ u ?_⟩
  have hj : j < size := by
    have := (List.getElem?_eq_some_iff.1 hu).1
    rw [hf] at this; exact this
  rw [flat_get f size hf xs k j _ hx hj]; exact hu

theorem szDrewN (w : World) (n : Nat) : (w.drewN n).heap.size = w.heap.size := rfl
theorem quiet_add_left {P : Program} {f : FuncId} {args : Array Value} {w : World} {a n : Nat} {v : Value}
    (h : Calls P f args (w.drewN (a + n)) fun e w' => e = .returned v ∧ w.drewN (a + n) = w') :
    Calls P f args (w.drewN (a + n)) fun e w'' => e = .returned v ∧ ∃ m, w'' = w.drewN (a + m) :=
  h.mono fun _ _ ⟨he, hm⟩ => ⟨he, n, hm.symm⟩
theorem quiet_left {P : Program} {f : FuncId} {args : Array Value} {w : World} {n : Nat} {v : Value}
    (h : Calls P f args (w.drewN n) fun e w' => e = .returned v ∧ w.drewN n = w') : Calls P f args (w.drewN n) fun e w'' => e = .returned v ∧ ∃ m, w'' = w.drewN m :=
  h.mono fun _ _ ⟨he, hm⟩ => ⟨he, n, hm.symm⟩

/-- What is left of a budget: -1, or a number from which it is seen that there are no more than 'left' elements. -/
def SzPost (left : Int) (n : Nat) (w : World) (e : Ending) (w' : World) : Prop := ∃ r : Int, e = .returned (.int .i64 r) ∧ -1 ≤ r ∧ r ≤ left ∧ (0 ≤ r → (n : Int) ≤ left) ∧ Ext w w'

/-- A list whose neighbours fit. -/
def adj {α : Type} (p : Option α → α → Bool) : Option α → List α → Bool
  | _, [] => true
  | q, x :: xs => p q x && adj p (some x) xs
theorem adj_append {α : Type} (p : Option α → α → Bool) : ∀ (q : Option α) (xs ys : List α), adj p q (xs ++ ys) = (adj p q xs && adj p (xs.getLast?.or q) ys)
  | q, [], ys => by simp [adj]
  | q, x :: xs, ys => by
    rw [List.cons_append, adj, adj, adj_append p (some x) xs ys, Bool.and_assoc]
    congr 3
    cases xs <;> simp [List.getLast?_cons]
def before {α : Type} (xs : List α) (k : Nat) : Option α := if k = 0 then none else xs[k - 1]?
theorem before_take {α : Type} (xs : List α) (k : Nat) (hk : k ≤ xs.length) : (xs.take k).getLast?.or none = before xs k := by
  unfold before
  rw [List.getLast?_eq_getElem?, List.length_take, Nat.min_eq_left hk]
  split
  · subst k; simp
  · rw [List.getElem?_take_of_lt (by omega)]; simp
def adjTo {α : Type} (p : Option α → α → Bool) (xs : List α) (k : Nat) : Prop := adj p none (xs.take k) = true
theorem adjTo_zero {α : Type} (p : Option α → α → Bool) (xs : List α) : adjTo p xs 0 := by simp [adjTo, adj]
theorem adjTo_succ {α : Type} {p : Option α → α → Bool} {xs : List α} {k : Nat} {x : α} (h : adjTo p xs k) (hx : xs[k]? = some x) (hp : p (before xs k) x = true) : adjTo p xs (k + 1) := by
  obtain ⟨hk, e⟩ := List.getElem?_eq_some_iff.1 hx
  unfold adjTo at *
  rw [List.take_succ_eq_append_getElem hk, adj_append, h, before_take _ _ (by omega), e]
  simp [adj, hp]
theorem adj_bad {α : Type} {p : Option α → α → Bool} {xs : List α} {k : Nat} {x : α} (hx : xs[k]? = some x) (hp : p (before xs k) x = false) : adj p none xs = false := by
  obtain ⟨hk, e⟩ := List.getElem?_eq_some_iff.1 hx
  have : xs = xs.take k ++ (x :: xs.drop (k + 1)) := by
    rw [← e, List.getElem_cons_drop hk, List.take_append_drop]
  rw [this, adj_append, before_take _ _ (by omega)]
  simp [adj, hp]
theorem adj_end {α : Type} {p : Option α → α → Bool} {xs : List α} (h : adjTo p xs xs.length) : adj p none xs = true := by
  unfold adjTo at h
  rwa [List.take_of_length_le (Nat.le_refl _)] at h
end Go.Proofs.YtoafaejhabjlnaaDoor
