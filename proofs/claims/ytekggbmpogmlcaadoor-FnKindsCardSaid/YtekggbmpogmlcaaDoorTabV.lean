/- Valid tables of kinds. -/
import Derived.Test.YtekggbmpogmlcaaDoorTab
import Derived.Test.YtekggbmpogmlcaaDoorAdj
import Derived.Test.YtekggbmpogmlcaaDoorCmp
import Derived.Test.YtekggbmpogmlcaaDoorTail
namespace Go.Proofs.YtekggbmpogmlcaaDoor
open Go.RowKit
set_option linter.unusedVariables false
set_option linter.unusedSimpArgs false
attribute [local go_sem] ExtOf.cell

/-- The size of trait a (0 where there is none). -/
def sizeAt (ss : List Int) (a : Int) : Int := (ss[a.toNat]?).getD 0
/-- A ban that fits the sizes. -/
def banFits (ss : List Int) (b : Ban) : Bool := decide (0 ≤ b.A) && (decide (b.A < b.B) && (decide (b.B < ss.length) && (inB b.X 0 (sizeAt ss b.A - 1) && inB b.Y 0 (sizeAt ss b.B - 1))))
def banOr (y x : Ban) : Int := orI [cmpI y.A x.A, cmpI y.X x.X, cmpI y.B x.B, cmpI y.Y x.Y]
def banLess (y x : Ban) : Bool := decide (banOr y x < 0)
def BanP (ss : List Int) (q : Option Ban) (x : Ban) : Bool := banFits ss x && (match q with
  | none => true
  | some y => banLess y x)
def sizesOk (ss : List Int) : Bool := ss.all fun s => inB s 1 5
def TabOk (ss : List Int) (bs : List Ban) : Bool := inB ss.length 1 5 && (decide (bs.length ≤ 20) && (sizesOk ss && adj (BanP ss) none bs))
theorem TabOk_all {ss : List Int} {bs : List Ban} (h : TabOk ss bs = true) : (1 ≤ ss.length ∧ ss.length ≤ 5) ∧ bs.length ≤ 20 ∧ (∀ s ∈ ss, 1 ≤ s ∧ s ≤ 5) ∧ (∀ b ∈ bs, banFits ss b = true) := by
  simp only [TabOk, Bool.and_eq_true, decide_eq_true_eq] at h
  obtain ⟨h1, h2, h3, h4⟩ := h
  have h1' := inB_iff.1 h1
  refine ⟨by omega, h2, fun s hs => ?_, ?_⟩
  · have := List.all_eq_true.1 h3 s hs
    exact inB_iff.1 this
  · exact adj_all (fun q x hp => by simp only [BanP, Bool.and_eq_true] at hp; exact hp.1) h4
theorem banFits_all {ss : List Int} {b : Ban} (hs : ∀ s ∈ ss, 1 ≤ s ∧ s ≤ 5) (hl : ss.length ≤ 5) (h : banFits ss b = true) : (0 ≤ b.A ∧ b.A < b.B ∧ b.B < ss.length ∧ b.B ≤ 4) ∧ (0 ≤ b.X ∧ b.X ≤ 4) ∧ (0 ≤ b.Y ∧ b.Y ≤ 4) ∧ b.X ≤ sizeAt ss b.A - 1 ∧ b.Y ≤ sizeAt ss b.B - 1 := by
  simp only [banFits, Bool.and_eq_true, decide_eq_true_eq] at h
  obtain ⟨h1, h2, h3, h4, h5⟩ := h
  have h4 := inB_iff.1 h4
  have h5 := inB_iff.1 h5
  have k : ∀ a : Int, 0 ≤ a → a < ss.length → sizeAt ss a ≤ 5 := fun a ha hb => by
    unfold sizeAt
    have : a.toNat < ss.length := by omega
    rw [List.getElem?_eq_getElem this]
    exact (hs _ (List.getElem_mem this)).2
  have := k b.A h1 (by omega)
  have := k b.B (by omega) h3
  omega
def banCode (b : Ban) : Int := 1000 * b.A + 100 * b.X + 10 * b.B + b.Y
theorem banLess_code {ss : List Int} {x y : Ban} (hs : ∀ s ∈ ss, 1 ≤ s ∧ s ≤ 5) (hl : ss.length ≤ 5) (hx : banFits ss x = true) (hy : banFits ss y = true) : banLess y x = !(decide (banCode x ≤ banCode y)) := by
  obtain ⟨⟨a1, a2, a3, a4⟩, ⟨a5, a6⟩, ⟨a7, a8⟩, _⟩ := banFits_all hs hl hx
  obtain ⟨⟨b1, b2, b3, b4⟩, ⟨b5, b6⟩, ⟨b7, b8⟩, _⟩ := banFits_all hs hl hy
  have z1 : ∀ a : Int, cmpI a a = 0 := fun a => cmpI_of_eq rfl
  unfold banLess banOr banCode
  rcases Int.lt_trichotomy y.A x.A with h1 | h1 | h1
  · rw [Bool.eq_iff_iff]
    simp [orI, cmpI_of_lt h1]
    omega
  · rcases Int.lt_trichotomy y.X x.X with h2 | h2 | h2
    · rw [Bool.eq_iff_iff]
      simp [orI, h1, z1, cmpI_of_lt h2]
      omega
    · rcases Int.lt_trichotomy y.B x.B with h3 | h3 | h3
      · rw [Bool.eq_iff_iff]
        simp [orI, h1, h2, z1, cmpI_of_lt h3]
        omega
      · rcases Int.lt_trichotomy y.Y x.Y with h4 | h4 | h4
        · rw [Bool.eq_iff_iff]
          simp [orI, h1, h2, h3, z1, cmpI_of_lt h4]
          try omega
        · simp [orI, h1, h2, h3, h4, z1]
        · rw [Bool.eq_iff_iff]
          simp [orI, h1, h2, h3, z1, cmpI_of_gt h4]
          omega
      · rw [Bool.eq_iff_iff]
        simp [orI, h1, h2, z1, cmpI_of_gt h3]
        omega
    · rw [Bool.eq_iff_iff]
      simp [orI, h1, z1, cmpI_of_gt h2]
      omega
  · rw [Bool.eq_iff_iff]
    simp [orI, cmpI_of_gt h1]
    omega
end Go.Proofs.YtekggbmpogmlcaaDoor
