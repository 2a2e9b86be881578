/- The text of a gauge: plain laws. -/
import Derived.Test.YtoafaejhabjlnaaDoorItoa
import Derived.Lib.Strings
import Derived.Lib.TrimByte
namespace Go.Proofs.YtoafaejhabjlnaaDoor
open Go.RowKit
set_option linter.unusedVariables false
set_option linter.unusedSimpArgs false

def gaugeT (g : Int) : ByteArray :=
  if g % 100 = 0 then numT (g / 100) else if g % 10 = 0 then (numT (g / 100) ++ (⟨#[46]⟩ : ByteArray)) ++ numT (g / 10 % 10)
  else ((numT (g / 100) ++ (⟨#[46]⟩ : ByteArray)) ++ numT (g / 10 % 10)) ++ numT (g % 10)
def hundT (g : Int) : ByteArray :=
  if g % 100 < 10 then (numT (g / 100) ++ (⟨#[46, 48]⟩ : ByteArray)) ++ numT (g % 100) else (numT (g / 100) ++ (⟨#[46]⟩ : ByteArray)) ++ numT (g % 100)
def dg (a : Int) : UInt8 := UInt8.ofNat (48 + a.toNat)
theorem numT_dg {a : Int} (h0 : 0 ≤ a) (h : a < 10) : (numT a).data.toList = [dg a] := by rw [numT_small h0 h]; rfl
theorem app_list (a b : ByteArray) : (a ++ b).data.toList = a.data.toList ++ b.data.toList := by rw [ByteArray.data_append, Array.toList_append]
theorem dg_ne {a : Int} (h0 : 1 ≤ a) (h : a < 10) : (dg a == 48) = false ∧ (46 == dg a) = false := by
  obtain rfl | rfl | rfl | rfl | rfl | rfl | rfl | rfl | rfl : a = 1 ∨ a = 2 ∨ a = 3 ∨ a = 4 ∨ a = 5 ∨ a = 6 ∨ a = 7 ∨ a = 8 ∨ a = 9 := by omega
  all_goals exact ⟨rfl, rfl⟩
theorem hund_list {g : Int} (h0 : 0 ≤ g) : (hundT g).data.toList = (numT (g / 100)).data.toList ++ [46, dg (g / 10 % 10), dg (g % 10)] := by
  unfold hundT
  split
  · have e0 : g / 10 % 10 = 0 := by omega
    have e1 : g % 100 = g % 10 := by omega
    rw [app_list, app_list, e0, e1, numT_dg (a := g % 10) (by omega) (by omega)]
    simp [dg]
  · have e0 : g % 100 / 10 = g / 10 % 10 := by omega
    have e1 : g % 100 % 10 = g % 10 := by omega
    rw [app_list, app_list, numT_big (n := g % 100) (by omega), app_list, e0, e1, numT_dg (a := g / 10 % 10) (by omega) (by omega)]
    simp [dg]
theorem trim_tail (l : List UInt8) (x y : UInt8) : Lib.trimSuffix (Lib.trimRightB (l ++ [46, x, y]) 48) [46] =
    if (y == 48) = true then (if (x == 48) = true then l else if (46 == x) = true then l ++ [46] else l ++ [46, x]) else if (46 == y) = true then l ++ [46, x] else l ++ [46, x, y] := by
  unfold Lib.trimRightB
  cases hy : (y == 48)
  · cases hz : (46 == y)
    · simp [Lib.trimSuffix, Lib.hasSuffix, List.isSuffixOf, List.isPrefixOf, List.dropWhile, hy, hz]
    · obtain rfl : 46 = y := by simpa using hz
      simp [Lib.trimSuffix, Lib.hasSuffix, List.isSuffixOf, List.isPrefixOf, List.dropWhile, List.take_append, List.take_of_length_le]
  · obtain rfl : y = 48 := by simpa using hy
    cases hx : (x == 48)
    · cases hz : (46 == x)
      · simp [Lib.trimSuffix, Lib.hasSuffix, List.isSuffixOf, List.isPrefixOf, List.dropWhile, hx, hz]
      · obtain rfl : 46 = x := by simpa using hz
        simp [Lib.trimSuffix, Lib.hasSuffix, List.isSuffixOf, List.isPrefixOf, List.dropWhile, List.take_append, List.take_of_length_le]
    · obtain rfl : x = 48 := by simpa using hx
      simp [Lib.trimSuffix, Lib.hasSuffix, List.isSuffixOf, List.isPrefixOf, List.dropWhile]
theorem gauge_trim {g : Int} (h0 : 0 ≤ g) : (⟨(Lib.trimSuffix (Lib.trimRightB (hundT g).data.toList 48) [46]).toArray⟩ : ByteArray) = gaugeT g := by
  have hd0 : dg 0 = 48 := rfl
  rw [hund_list h0, trim_tail]
  apply ByteArray.ext
  unfold gaugeT
  by_cases hb : g % 10 = 0
  · rw [hb, hd0]
    by_cases ha : g / 10 % 10 = 0
    · rw [ha, hd0, if_pos (by omega : g % 100 = 0)]
      simp
    · obtain ⟨d1, d2⟩ := dg_ne (a := g / 10 % 10) (by omega) (by omega)
      rw [d1, d2, if_neg (by omega : ¬ g % 100 = 0), if_pos rfl]
      simp only [beq_self_eq_true, if_true, Bool.false_eq_true, if_false]
      apply Array.toList_inj.1
      rw [app_list, app_list, numT_dg (a := g / 10 % 10) (by omega) (by omega)]
      simp
  · obtain ⟨d1, d2⟩ := dg_ne (a := g % 10) (by omega) (by omega)
    rw [d1, d2, if_neg (by omega : ¬ g % 100 = 0), if_neg hb]
    simp only [Bool.false_eq_true, if_false]
    apply Array.toList_inj.1
    rw [app_list, app_list, app_list, numT_dg (a := g / 10 % 10) (by omega) (by omega), numT_dg (a := g % 10) (by omega) (by omega)]
    simp
theorem digits_len : ∀ (k n : Nat), n < 10 ^ (k + 1) → (Lib.decDigits n).length ≤ k + 1 := by
  intro k
  induction k with
  | zero => intro n h; rw [Lib.decDigits_one (by omega)]; simp
  | succ k ih =>
    intro n h
    by_cases h10 : n < 10
    · rw [Lib.decDigits_one h10]; simp
    · have h3 : n < 10 * 10 ^ (k + 1) := by rw [Nat.pow_succ, Nat.mul_comm] at h; exact h
      have := ih (n / 10) (Nat.div_lt_of_lt_mul h3)
      rw [Lib.decDigits, dif_neg h10, List.length_append]
      simp only [List.length_cons, List.length_nil]
      omega
theorem numT_five {n : Int} (h0 : 0 ≤ n) (h : n ≤ 10000) : (numT n).size ≤ 5 := by
  have := digits_len 4 n.toNat (by omega)
  have e : (numT n).size = (Lib.decDigits n.toNat).length := by
    unfold numT Lib.itoa
    rw [if_neg (by omega)]
    simp [ByteArray.size]
  rw [e]
  omega
theorem hundT_size {g : Int} (h0 : 0 ≤ g) (h : g ≤ 10000) : (hundT g).size ≤ 8 := by
  have h1 := numT_five (n := g / 100) (by omega) (by omega)
  have e : (hundT g).size = (numT (g / 100)).size + 3 := by
    have h := congrArg List.length (hund_list h0)
    rw [List.length_append, Array.length_toList, Array.length_toList] at h
    exact h
  omega
theorem gaugeT_size {g : Int} (h0 : 0 ≤ g) (h : g ≤ 10000) : (gaugeT g).size ≤ 8 := by
  have h1 := numT_five (n := g / 100) (by omega) (by omega)
  have d1 : (numT (g / 10 % 10)).size = 1 := by rw [numT_small (by omega) (by omega)]; rfl
  have d2 : (numT (g % 10)).size = 1 := by rw [numT_small (by omega) (by omega)]; rfl
  have d3 : (⟨#[46]⟩ : ByteArray).size = 1 := rfl
  unfold gaugeT
  split
  · omega
  · split
    · rw [ByteArray.size_append, ByteArray.size_append]; omega
    · rw [ByteArray.size_append, ByteArray.size_append, ByteArray.size_append]; omega
end Go.Proofs.YtoafaejhabjlnaaDoor
