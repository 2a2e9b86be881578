/- A kind of a table: the reference's check. -/
import Derived.Test.YtekggbmpogmlcaaTabY
namespace Go.Proofs.Ytekggbmpogmlcaa
open Go.RowKit
set_option linter.unusedVariables false
set_option linter.unusedSimpArgs false
attribute [local go_sem] ExtOf.cell

def zbad (p : Int × Int) : Bool := !(inB p.1 0 (p.2 - 1))
/-- A list that is a kind of a table of these sizes. -/
def KindOk (ss ks : List Int) : Bool := decide (ks.length = ss.length) && (ks.zip ss).all fun p => !(zbad p)
theorem zip_get {ks ss : List Int} {i : Nat} {v s : Int} (h1 : ks[i]? = some v) (h2 : ss[i]? = some s) : (ks.zip ss)[i]? = some (v, s) := by
  rw [List.getElem?_zip_eq_some]; exact ⟨h1, h2⟩
theorem KindOk_len {ss ks : List Int} (h : ks.length ≠ ss.length) : KindOk ss ks = false := by simp [KindOk, h]
theorem KindOk_bad {ss ks : List Int} {i : Nat} {v s : Int} (h1 : ks[i]? = some v) (h2 : ss[i]? = some s) (h : inB v 0 (s - 1) = false) : KindOk ss ks = false := by
  have : ((ks.zip ss).all fun p => !(zbad p)) = false := by
    rw [List.all_eq_false]
    exact ⟨(v, s), List.mem_of_getElem? (zip_get h1 h2), by simp [zbad, h]⟩
  unfold KindOk; rw [this]; simp
theorem KindOk_end {ss ks : List Int} {n : Nat} (hk : ks.length = n) (hs : n ≤ ss.length) (h : noneTo zbad (ks.zip ss) n) : KindOk ss ks = decide (ks.length = ss.length) := by
  have : ((ks.zip ss).all fun p => !(zbad p)) = true := by
    rw [List.all_eq_true]
    intro p hp
    have := h p (by rw [List.take_of_length_le (by simp; omega)]; exact hp)
    simp [this]
  unfold KindOk; rw [this]; simp

end Go.Proofs.Ytekggbmpogmlcaa
