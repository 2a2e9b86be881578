/- LatestLeave. -/
import Derived.Test.YtmgpdenofkloeaaEarl
namespace Go.Proofs.Ytmgpdenofkloeaa
open Go.RowKit
set_option linter.unusedVariables false
set_option linter.unusedSimpArgs false
attribute [local go_sem] ExtOf.cell

/-- A first mail of a route that is in time. -/
def lateB (xs : List Mail) (f t y : Int) (x : Mail) : Bool := (x.From == f) && decide (times xs x.To x.Arrive t.toNat ≤ y)
def lateTo (xs : List Mail) (f t y : Int) (k : Nat) : Int := (((xs.take k).reverse.find? (lateB xs f t y)).map Mail.Leave).getD (-1)
def lateV (xs : List Mail) (f t y : Int) : Int := ((xs.reverse.find? (lateB xs f t y)).map Mail.Leave).getD (-1)
theorem lateTo_zero (xs : List Mail) (f t y : Int) : lateTo xs f t y 0 = -1 := by simp [lateTo]
theorem lateTo_end {xs : List Mail} {f t y : Int} {n : Nat} (h : xs.length ≤ n) : lateTo xs f t y n = lateV xs f t y := by
  unfold lateTo lateV; rw [List.take_of_length_le h]
theorem lateTo_no {xs : List Mail} {f t y : Int} {k : Nat} {x : Mail} (h : xs[k]? = some x) (hp : lateB xs f t y x = false) : lateTo xs f t y (k + 1) = lateTo xs f t y k := by
  obtain ⟨hk, e⟩ := List.getElem?_eq_some_iff.1 h
  unfold lateTo
  rw [List.take_succ_eq_append_getElem hk, e, List.reverse_append, List.reverse_singleton, List.singleton_append, List.find?_cons, hp]
theorem lateTo_yes {xs : List Mail} {f t y : Int} {k : Nat} {x : Mail} (h : xs[k]? = some x) (hp : lateB xs f t y x = true) : lateTo xs f t y (k + 1) = x.Leave := by
  obtain ⟨hk, e⟩ := List.getElem?_eq_some_iff.1 h
  unfold lateTo
  rw [List.take_succ_eq_append_getElem hk, e, List.reverse_append, List.reverse_singleton, List.singleton_append, List.find?_cons, hp]
  rfl
theorem lateTo_bd {xs : List Mail} {f t y : Int} {k : Nat} {x : Mail} (hok : MailsOk xs = true) (h : xs[k]? = some x) : -1 ≤ lateTo xs f t y k ∧ lateTo xs f t y k ≤ x.Leave := by
  obtain ⟨hk, e⟩ := List.getElem?_eq_some_iff.1 h
  have hg := MailsOk_good hok
  have hs := MailsOk_sorted hok
  have hx := good_all (hg x (List.mem_of_getElem? h))
  unfold lateTo
  cases hf : (xs.take k).reverse.find? (lateB xs f t y) with
  | none => simp; omega
  | some z =>
    have hm := List.mem_of_find?_eq_some hf
    rw [List.mem_reverse] at hm
    have hz := good_all (hg z (List.mem_of_mem_take hm))
    obtain ⟨i, hi, ez⟩ := List.getElem_of_mem hm
    rw [List.length_take] at hi
    rw [List.getElem_take] at ez
    have := (List.pairwise_iff_getElem.1 hs) i k (by omega) hk (by omega)
    rw [ez, e] at this
    simp
    omega
theorem lateV_bd {xs : List Mail} {f t y : Int} (hok : MailsOk xs = true) : -1 ≤ lateV xs f t y ∧ lateV xs f t y ≤ 9998 := by
  have hg := MailsOk_good hok
  unfold lateV
  cases hf : xs.reverse.find? (lateB xs f t y) with
  | none => simp
  | some z =>
    have hm := List.mem_of_find?_eq_some hf
    rw [List.mem_reverse] at hm
    have hz := good_all (hg z hm)
    simp
    omega
/-- No hit from index k on. -/
def noneFrom {α : Type} (p : α → Bool) (xs : List α) (k : Nat) : Prop := ∀ x ∈ xs.drop k, p x = false
theorem noneFrom_end {α : Type} (p : α → Bool) (xs : List α) {n : Nat} (h : xs.length ≤ n) : noneFrom p xs n := by
  intro x hx
  rw [List.drop_eq_nil_of_le h] at hx
  cases hx
theorem noneFrom_pred {α : Type} {p : α → Bool} {xs : List α} {k : Nat} {x : α} (h : noneFrom p xs (k + 1)) (hx : xs[k]? = some x) (hp : p x = false) : noneFrom p xs k := by
  obtain ⟨hk, e⟩ := List.getElem?_eq_some_iff.1 hx
  intro y hy
  rw [List.drop_eq_getElem_cons hk, List.mem_cons] at hy
  rcases hy with hy | hy
  · rw [hy, e]; exact hp
  · exact h y hy
theorem late_hit {xs : List Mail} {f t y : Int} {k : Nat} {x : Mail} (h : noneFrom (lateB xs f t y) xs (k + 1)) (hx : xs[k]? = some x) (hp : lateB xs f t y x = true) : lateV xs f t y = x.Leave := by
  obtain ⟨hk, e⟩ := List.getElem?_eq_some_iff.1 hx
  have hs : xs.reverse = (xs.drop (k + 1)).reverse ++ x :: (xs.take k).reverse := by
    conv => lhs; rw [show xs = xs.take k ++ (x :: xs.drop (k + 1)) by rw [← e, List.getElem_cons_drop hk, List.take_append_drop]]
    simp
  unfold lateV
  rw [hs, List.find?_append, show (xs.drop (k + 1)).reverse.find? (lateB xs f t y) = none from List.find?_eq_none.2 (fun z hz => by rw [h z (List.mem_reverse.1 hz)]; simp), Option.none_or, List.find?_cons, hp]
  rfl
theorem late_miss {xs : List Mail} {f t y : Int} (h : noneFrom (lateB xs f t y) xs 0) : lateV xs f t y = -1 := by
  unfold lateV
  rw [List.find?_eq_none.2 (fun z hz => by rw [h z (by simpa using hz)]; simp)]
  rfl
def askL (xs : List Mail) (f t y : Int) : Bool := MailsOk xs && (inB f 0 9 && (inB t 0 9 && (!(decide (f = t)) && inB y 0 9999)))
def lateR (xs : List Mail) (f t y : Int) : Int := if askL xs f t y then max (lateV xs f t y) 0 else 0
def hasL (xs : List Mail) (f t y : Int) : Bool := askL xs f t y && decide (0 ≤ lateV xs f t y)



end Go.Proofs.Ytmgpdenofkloeaa
