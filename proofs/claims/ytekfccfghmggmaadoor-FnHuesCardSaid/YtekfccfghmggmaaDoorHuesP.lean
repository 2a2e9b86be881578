/- FnHues: the plain laws. -/
import Derived.Test.YtekfccfghmggmaaDoorShadeH
import Derived.Test.YtekfccfghmggmaaDoorHues
namespace Go.Proofs.YtekfccfghmggmaaDoor
open Go.RowKit
set_option linter.unusedVariables false
set_option linter.unusedSimpArgs false

theorem dist_sym (a b : Int) : hueDist a b = hueDist b a := by unfold hueDist; omega
theorem hues_sym (a b : Int) : hues a b = hues b a := by unfold hues; exact Bool.and_comm _ _
theorem distR_sym (a b : Int) : hueDistR b a = hueDistR a b := by unfold hueDistR; rw [hues_sym b a, dist_sym b a]
theorem dist_le (a b : Int) : hueDistR a b ≤ 180 := by
  unfold hueDistR
  split
  · unfold hueDist; omega
  · omega
theorem dist_ge (a b : Int) : 0 ≤ hueDistR a b := by
  unfold hueDistR
  split
  · unfold hueDist; omega
  · omega
theorem hues_all {a b : Int} (h : hues a b = true) : (0 ≤ a ∧ a ≤ 359) ∧ (0 ≤ b ∧ b ≤ 359) := by
  simp only [hues, Bool.and_eq_true] at h
  exact ⟨inB_iff.1 h.1, inB_iff.1 h.2⟩
theorem dist_fwd {x y k : Int} (h0 : 0 ≤ k) (h1 : k ≤ 180) (h : y = x + k ∨ y = x + k - 360) : hueDist x y = k := by
  unfold hueDist
  rcases h with rfl | rfl <;> omega
theorem dist_bwd {x y k : Int} (h0 : 0 ≤ k) (h1 : k ≤ 180) (h : y = x - k ∨ y = x - k + 360) : hueDist x y = k := by
  unfold hueDist
  rcases h with rfl | rfl <;> omega
/-- The blended hue lies between. -/
theorem blend_law {a b : Int} (h : hues a b = true) : hues a (blendR a b) = true ∧ hues (blendR a b) b = true ∧
    hueDistR a (blendR a b) + hueDistR (blendR a b) b = hueDistR a b ∧ hueDistR (blendR a b) b - hueDistR a (blendR a b) ≤ 1 ∧ hueDistR a (blendR a b) ≤ hueDistR (blendR a b) b := by
  obtain ⟨⟨a1, a2⟩, b1, b2⟩ := hues_all h
  have hm : blendR a b = blend a b := by unfold blendR; rw [if_pos h]
  have hmb : 0 ≤ blend a b ∧ blend a b ≤ 359 := by unfold blend; split <;> omega
  have h1 : hues a (blend a b) = true := hues_yes (inB_iff.2 ⟨a1, a2⟩) (inB_iff.2 hmb)
  have h2 : hues (blend a b) b = true := hues_yes (inB_iff.2 hmb) (inB_iff.2 ⟨b1, b2⟩)
  rw [hm]
  refine ⟨h1, h2, ?_⟩
  unfold hueDistR
  rw [if_pos h1, if_pos h2, if_pos h]
  clear h1 h2 hm hmb h
  unfold blend
  split
  · rename_i hu
    generalize hud : (b - a) % 360 = u at *
    generalize hmd : (a + u / 2) % 360 = m at *
    rw [dist_fwd (x := a) (y := m) (k := u / 2) (by omega) (by omega) (by omega), dist_fwd (x := m) (y := b) (k := u - u / 2) (by omega) (by omega) (by omega), dist_fwd (x := a) (y := b) (k := u) (by omega) (by omega) (by omega)]
    omega
  · rename_i hu
    generalize hud : (a - b) % 360 = u at *
    have hu2 : u < 180 := by omega
    clear hu
    generalize hmd : (a - u / 2) % 360 = m at *
    rw [dist_bwd (x := a) (y := m) (k := u / 2) (by omega) (by omega) (by omega), dist_bwd (x := m) (y := b) (k := u - u / 2) (by omega) (by omega) (by omega), dist_bwd (x := a) (y := b) (k := u) (by omega) (by omega) (by omega)]
    omega
/-- How many hues below H are within w of a. -/
def wide (a w : Int) (H : Int) : Int := max 0 (min H (a + w - 359)) + max 0 (min H (a + w + 1) - max 0 (a - w)) + max 0 (H - (a - w + 360))
set_option maxHeartbeats 1000000 in
theorem cnt_wide {a w : Int} (ha : 0 ≤ a ∧ a ≤ 359) (hw : 0 ≤ w ∧ w ≤ 179) (p : Nat → Bool) (hp : ∀ h : Nat, p h = true → hueDist a h ≤ w) : ∀ H : Nat, H ≤ 360 → (cnt p H : Int) ≤ wide a w H
  | 0, _ => by simp [cnt, wide]; omega
  | H + 1, hH => by
    have ih := cnt_wide ha hw p hp H (by omega)
    cases h : p H with
    | true =>
      have hd := hp H h
      rw [cnt_yes h]
      unfold wide at *
      unfold hueDist at hd
      omega
    | false =>
      rw [cnt_no h]
      unfold wide at *
      omega
theorem wide_end {a w : Int} (ha : 0 ≤ a ∧ a ≤ 359) (hw : 0 ≤ w ∧ w ≤ 179) : wide a w 360 ≤ 2 * w + 1 := by
  unfold wide; omega
/-- Certain hues are no more than those of the shade. -/
theorem sure_law {xs : List Shade} {nm : ByteArray} {light : Int} (h : sureOk xs nm light = true) {x : Shade} (hx : x ∈ xs) (hn : (x.Name.toList == nm.toList) = true) :
    sureR xs nm light ≤ 2 * x.Width + 1 ∧ 0 ≤ x.Width ∧ x.Width ≤ 179 := by
  have h0 := h
  simp only [sureOk, Bool.and_eq_true] at h0
  have hg := shadesOk_good h0.1 x hx
  obtain ⟨_, b1, b2, _⟩ := shOk_all (show shOk x.Name x.Hue x.Width x.Dark x.Light = true from hg)
  refine ⟨?_, b2⟩
  unfold sureR
  rw [if_pos h]
  refine Int.le_trans (cnt_wide b1 b2 _ (fun k hk => ?_) 360 (Nat.le_refl _)) (wide_end b1 b2)
  unfold sureAt at hk
  have hk2 := List.all_eq_true.1 hk x hx
  unfold sureP at hk2
  rw [show named nm x = true from hn] at hk2
  have hk3 : takes (k : Int) light x = true := by simpa using hk2
  simp only [takes, Bool.and_eq_true, decide_eq_true_eq] at hk3
  exact hk3.1
end Go.Proofs.YtekfccfghmggmaaDoor
