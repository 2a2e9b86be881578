/- Texts and numbers that mark memory. -/
import Derived.Test.YtoafaejhabjlnaaDoorQuiet
import Derived.Test.YtoafaejhabjlnaaDoorNum
import Derived.Laws.IdiomStrings
namespace Go.Proofs.YtoafaejhabjlnaaDoor
open Go.RowKit
set_option linter.unusedVariables false
set_option linter.unusedSimpArgs false
attribute [local go_sem] ExtOf.cell

def dig (i : Int) : UInt8 := UInt8.ofNat (48 + i % 10).toNat
theorem dig_nat (i : Int) : ((dig i).toNat : Int) = 48 + i % 10 := by
  unfold dig
  rw [UInt8.toNat_ofNat']
  omega
def digS (i : Int) : ByteArray := ⟨[dig i].toArray⟩
def catS (a b : ByteArray) : ByteArray := a ++ b
theorem cat_size (i : Int) (out : ByteArray) : (catS (digS i) out).size = 1 + out.size := by
  unfold catS
  rw [ByteArray.size_append]
  rfl
def mt : Nat → Int → ByteArray → ByteArray
  | 0, _, out => out
  | f + 1, i, out => if i ≤ 0 then out else mt f (i / 10) (catS (digS i) out)
theorem mt_more : ∀ (f : Nat) (i : Int) (out : ByteArray), i.toNat ≤ f → mt f i out = mt i.toNat i out := by
  intro f
  induction f using Nat.strongRecOn with
  | _ f ih =>
    intro i out h
    cases f with
    | zero => rw [show i.toNat = 0 by omega]
    | succ f =>
      by_cases hi : i ≤ 0
      · have e : i.toNat = 0 := by omega
        rw [e]; simp [mt, hi]
      · obtain ⟨g, hg⟩ : ∃ g, i.toNat = g + 1 := ⟨i.toNat - 1, by omega⟩
        rw [hg, mt, mt, if_neg hi, if_neg hi, ih f (by omega) _ _ (by omega), ih g (by omega) _ _ (by omega)]
theorem mt_step {i : Int} (out : ByteArray) (h : 0 < i) : mt i.toNat i out = mt (i / 10).toNat (i / 10) (catS (digS i) out) := by
  obtain ⟨g, hg⟩ : ∃ g, i.toNat = g + 1 := ⟨i.toNat - 1, by omega⟩
  rw [hg, mt, if_neg (by omega), mt_more g _ _ (by omega)]
/-- The text that marks with the number k. -/
def markS (k : Int) : ByteArray := catS ⟨#[109]⟩ (mt k.toNat k ⟨#[]⟩)
def strs (l : List ByteArray) : List Value := l.map Value.string
theorem strs_get {l : List ByteArray} {k : Nat} {a : ByteArray} (h : l[k]? = some a) : (strs l)[k]? = some (.string a) := by simp [strs, h]
theorem strs_length (l : List ByteArray) : (strs l).length = l.length := by simp [strs]
theorem Rd.str {w : World} {A : Option Addr} {n k : Nat} {l : List ByteArray} (h : Rd w A n 1 (strs l)) (hk : k < n) :
    ∃ b off x, A = some ⟨b, off, none⟩ ∧ b < w.heap.size ∧ Hid (l[k]? = some x) ∧ w.cell? ⟨b, off + k, none⟩ = some (.string x) := by
  obtain ⟨b, off, e, hb, hc⟩ := h.2 (by omega)
  have hl : k < l.length := by have := h.1; rw [strs_length] at this; omega
  have hx : l[k]? = some l[k] := List.getElem?_eq_getElem hl
  exact ⟨b, off, l[k], e, hb, hx, hc k _ (strs_get hx)⟩
def marks (k : Int) (n : Nat) : List ByteArray := (List.range n).map fun (i : Nat) => markS (k + (i : Int))
theorem marks_length (k : Int) (n : Nat) : (marks k n).length = n := by simp [marks]
theorem marks_get (k : Int) {n i : Nat} (h : i < n) : (marks k n)[i]? = some (markS (k + i)) := by simp [marks, h]
end Go.Proofs.YtoafaejhabjlnaaDoor
