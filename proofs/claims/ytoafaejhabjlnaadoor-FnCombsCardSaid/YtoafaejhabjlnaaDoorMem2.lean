/- Rows of the call's own that are filled element by element: a store of a whole struct. -/
import Derived.Test.YtoafaejhabjlnaaDoorMem
import Derived.Deep.MidRow
namespace Go.Proofs.YtoafaejhabjlnaaDoor
open Go.RowKit
set_option linter.unusedVariables false
set_option linter.unusedSimpArgs false

theorem Ext.grownNone {w w' : World} (h : Ext w w') : w.grownBy w' none := by
  obtain ⟨h1, h2, h3, h4, h5⟩ := h
  exact ⟨h1, h2, h3, h4, fun k hk _ => h5 k hk⟩
theorem Ext.own {w w' : World} {base : Nat} {e : TypeId} {size n : Nat} {v : Value} {xs : List Value} (h : Ext w w') (ho : w.ownsRow base e size v n xs) : w'.ownsRow base e size v n xs :=
  ho.kept h.grownNone (by cases hv : v.ownBlock <;> simp)
theorem Ext.row {a w w' : World} {g : Nat} (h : Ext a w) (hg : w.grownBy w' (some g)) (hb : a.heap.size ≤ g) : Ext a w' := h.grown hg (fun k hk => by injection hk with hk; omega)

/-- The list with vs written from place o on. -/
def setL (xs : List Value) : Nat → List Value → List Value
  | _, [] => xs
  | o, v :: r => setL (xs.set o v) (o + 1) r
theorem setL_length : ∀ (vs : List Value) (o : Nat) (xs : List Value), (setL xs o vs).length = xs.length
  | [], o, xs => rfl
  | v :: r, o, xs => by rw [setL, setL_length r]; simp
theorem setL_mid : ∀ (vs pre mid post : List Value), mid.length = vs.length → setL (pre ++ mid ++ post) pre.length vs = pre ++ vs ++ post
  | [], pre, mid, post, h => by
    have : mid = [] := List.eq_nil_of_length_eq_zero (by simpa using h)
    subst this; simp [setL]
  | v :: r, pre, [], post, h => by simp at h
  | v :: r, pre, m :: ms, post, h => by
    rw [setL]
    have e : (pre ++ (m :: ms) ++ post).set pre.length v = (pre ++ [v]) ++ ms ++ post := by
      rw [List.append_assoc, List.set_append_right _ _ (Nat.le_refl _)]
      simp
    rw [e, show pre.length + 1 = (pre ++ [v]).length by simp, setL_mid r (pre ++ [v]) ms post (by simpa using h)]
    simp
section
variable {w : World} {base : Nat} {e : TypeId} {size : Nat} {n : Nat} {xs : List Value} {g cap : Nat}
theorem own_setCells (vs : List Value) : ∀ (o : Nat) (w : World) (xs : List Value), w.ownsRow base e size (.slice (some ⟨g, 0, none⟩) n cap) n xs →
    (w.setCells g o vs).ownsRow base e size (.slice (some ⟨g, 0, none⟩) n cap) n (setL xs o vs) ∧ w.grownBy (w.setCells g o vs) (some g) := by
  induction vs with
  | nil => exact fun o w xs h => ⟨h, World.grownBy.refl w _⟩
  | cons v r ih =>
    intro o w xs h
    obtain ⟨h1, h2⟩ := h.stored o v
    obtain ⟨h3, h4⟩ := ih (o + 1) _ _ h1
    refine ⟨h3, ⟨h4.os.trans h2.os, h4.tape.trans h2.tape, h4.output.trans h2.output, Nat.le_trans h2.size h4.size, fun k hk hne => (h4.block k (Nat.lt_of_lt_of_le hk h2.size) hne).trans (h2.block k hk hne)⟩⟩
theorem own_there (h : w.ownsRow base e size (.slice (some ⟨g, 0, none⟩) n cap) n xs) (o m : Nat) (hm : o + m ≤ n * size) : w.there g o m := by
  intro j hj
  refine ⟨?_, h.frozenAt _⟩
  rw [h.cellAt (o + j) (by omega)]
  have := h.1
  simp; omega
end
/-- Part filled: the first k elements are those of xs. -/
def fillTo {α : Type} (f : α → List Value) (xs : List α) (zs : List Value) (size k : Nat) : List Value := (xs.take k).flatMap f ++ zs.drop (k * size)
theorem fill_zero {α : Type} (f : α → List Value) (xs : List α) (zs : List Value) (size : Nat) : fillTo f xs zs size 0 = zs := by simp [fillTo]
theorem fill_end {α : Type} {f : α → List Value} {xs : List α} {zs : List Value} {size n : Nat} (hn : xs.length = n) (hz : zs.length = n * size) : fillTo f xs zs size n = xs.flatMap f := by
  unfold fillTo
  rw [List.take_of_length_le (by omega), List.drop_eq_nil_of_le (by omega), List.append_nil]
theorem fill_set {α : Type} {f : α → List Value} {xs : List α} {zs : List Value} {size n k : Nat} {x : α} (hf : ∀ x, (f x).length = size) (hn : xs.length = n) (hz : zs.length = n * size) (hx : xs[k]? = some x) :
    setL (fillTo f xs zs size k) (k * size) (f x) = fillTo f xs zs size (k + 1) := by
  obtain ⟨hk, rfl⟩ := List.getElem?_eq_some_iff.1 hx
  unfold fillTo
  have h1 : ((xs.take k).flatMap f).length = k * size := by rw [flat_length f size hf, List.length_take, Nat.min_eq_left (by omega)]
  have h2 : zs.drop (k * size) = (zs.drop (k * size)).take size ++ zs.drop ((k + 1) * size) := by
    rw [show (k + 1) * size = k * size + size by rw [Nat.add_mul]; omega, ← List.drop_drop, List.take_append_drop]
  have h3 : ((zs.drop (k * size)).take size).length = (f xs[k]).length := by
    rw [hf, List.length_take, List.length_drop, hz]
    have : k * size + size ≤ n * size := by
      rw [show k * size + size = (k + 1) * size by rw [Nat.add_mul]; omega]
      exact Nat.mul_le_mul_right _ (by omega)
    omega
  have h4 := setL_mid (f xs[k]) ((xs.take k).flatMap f) _ (zs.drop ((k + 1) * size)) h3
  rw [h1] at h4
  rw [h2, ← List.append_assoc, h4, List.take_succ_eq_append_getElem hk, List.flatMap_append]
  simp
section
variable {P : Program}
/-- A whole struct stored into a row of the call's own. -/
theorem wpList_store_own {ops : Array Oper} {rest : List Oper} {op : Oper} {a : Act} {w : World} {Q : Exit → Act → World → Prop} (hgd : op.guard = none) (ty : TypeId) (x y : Operand) (ho : op.op = .store ty x y)
    (g o : Nat) (vs : List Value) (hx : a.eval x = .pointer (some ⟨g, o, none⟩)) (hy : a.eval y = .agg vs.toArray)
    (base : Nat) (e : TypeId) (size n cap : Nat) (xs : List Value) (hown : w.ownsRow base e size (.slice (some ⟨g, 0, none⟩) n cap) n xs) (hm : o + vs.length ≤ n * size)
    (hi : (P.info? ty).map (·.size) = some vs.length) (h1 : vs.all (·.oneCell') = true)
    (h : ∀ w', w'.ownsRow base e size (.slice (some ⟨g, 0, none⟩) n cap) n (setL xs o vs) → w.grownBy w' (some g) → wpList P ops Q rest (a.put op.dst undef) w') : wpList P ops Q (op :: rest) a w := by
  obtain ⟨h2, h3⟩ := own_setCells vs o w xs hown
  exact wpList_store_mid hgd ty x y ho g o vs.toArray hx hy (own_there hown _ _ (by simpa using hm)) (by simpa using hi) (by simpa using h1) (by simpa using h _ h2 h3)
end
/-- A new list, at the head of the first new block. -/
def NewPost (T size n : Nat) (cs : List Value) (w : World) (e : Ending) (w' : World) : Prop :=
  e = .returned (.slice (some ⟨w.heap.size, 0, none⟩) n n) ∧ w'.ownsRow w.heap.size T size (.slice (some ⟨w.heap.size, 0, none⟩) n n) n cs ∧ Ext w w'
theorem made_len (z : Array Value) (m : Nat) : (madeCells z m).toList.length = m := by rw [Array.length_toList, size_madeCells]
end Go.Proofs.YtoafaejhabjlnaaDoor
