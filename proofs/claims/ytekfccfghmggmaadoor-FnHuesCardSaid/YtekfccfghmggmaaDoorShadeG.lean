/- The reference's free colors; certain hues. -/
import Derived.Test.YtekfccfghmggmaaDoorShadeF
namespace Go.Proofs.YtekfccfghmggmaaDoor
open Go.RowKit
set_option linter.unusedVariables false
set_option linter.unusedSimpArgs false
attribute [local go_sem] ExtOf.cell

theorem countP_zero {α : Type} (p : α → Bool) (xs : List α) : ((xs.countP p : Nat) == 0) = !(xs.any p) := by
  induction xs with
  | nil => rfl
  | cons x xs ih => cases h : p x <;> simp [List.countP_cons, h] ; simpa using ih

set_option maxRecDepth 100000 in
set_option maxHeartbeats 1000000 in
theorem FreeColorsS_any (A : Option Addr) (n c : Nat) (xs : List Shade) (light : Int) (w : World) (h : ShL w A n xs) :
    Calls Tryd.prog 15 #[.slice A n c, .int .i64 light] w fun e w' => e = .returned (.tuple #[.int .i64 (freeR xs light), .bool (freeOk xs light)]) ∧ Ext w w' := by
  rcases chain2 (shadesOk xs) (inB light 0 100) with h1 | ⟨h1, h2⟩ | ⟨h1, h2⟩
  · go_enter Tryd.func15, Tryd.ntmps15
    go_wp2_with (first | (go_at_call 37; refine (l7Good_L h).mono ?_; rintro e wa ⟨rfl, he1⟩; have hc1 := he1.cells) | (go_at_call 38; refine (l1In_any _ _ _ _).mono ?_; rintro e w' ⟨rfl, rfl⟩))
    go_ret2
    exact ⟨ret_int_bool (by simp [freeR, freeOk, h1]) (by simp [freeOk, h1]), he1⟩
  · go_enter Tryd.func15, Tryd.ntmps15
    go_wp2_with (first | (go_at_call 37; refine (l7Good_L h).mono ?_; rintro e wa ⟨rfl, he1⟩; have hc1 := he1.cells) | (go_at_call 38; refine (l1In_any _ _ _ _).mono ?_; rintro e w' ⟨rfl, rfl⟩))
    go_ret2
    exact ⟨ret_int_bool (by simp [freeR, freeOk, h1, h2]) (by simp [freeOk, h1, h2]), he1⟩
  · have hg := Lib.hid (shadesOk_good h1)
    go_enter Tryd.func15, Tryd.ntmps15
    go_wp2_with (first | (go_at_call 37; refine (l7Good_L h).mono ?_; rintro e wa ⟨rfl, he1⟩; have hc1 := he1.cells) | (go_at_call 38; refine (l1In_any _ _ _ _).mono ?_; rintro e w' ⟨rfl, rfl⟩))
    have HC := Lib.hid (fun (wr : World) (k : Nat) (he : Ext wa wr) (hk : k < 360) => l7Count_any A n c xs k light wr (h.ext (he1.trans he)) hg.out (by omega) (by omega))
    clear hc1
    go_loopw [6, 7] (fun m i wr => ∃ k : Nat, k ≤ 360 ∧ i = .int .i64 k ∧ m = .int .i64 (cnt (freeAt xs light) k : Int) ∧ Ext wa wr) (fun _ i _ => 360 - (intOf i).toNat)
    case atStart => exact ⟨0, Nat.zero_le _, rfl, rfl, Ext.refl _⟩
    case round =>
      obtain ⟨k, hk, rfl, rfl, he⟩ := hrel
      have hcl := cnt_le (freeAt xs light) k
      by_cases hlt : k < 360
      · have C := Lib.hid (HC.out wr k he hlt)
        have hz := Lib.hid (countP_zero (takes (k : Int) light) xs)
        generalize xs.countP (takes (k : Int) light) = m at *
        cases ha : xs.any (takes (k : Int) light)
        · have hs := Lib.hid (cnt_yes (p := freeAt xs light) (h := k) (by simp [freeAt, ha]))
          have hm0 : m = 0 := by have := hz.out; rw [ha] at this; simpa using this
          subst hm0
          go_wp2_with (go_at_call 40; refine C.out.mono ?_; rintro e wb ⟨rfl, he1⟩)
          go_roundw
          case rel => exact ⟨k + 1, by omega, by go_num, by rw [hs.out]; go_num, he.trans he1⟩
          case measure => simp [intOf]; omega
        · have hs := Lib.hid (cnt_no (p := freeAt xs light) (h := k) (by simp [freeAt, ha]))
          have hm0 : ((m : Int) == 0) = false := by have := hz.out; rw [ha] at this; simp at this ⊢; omega
          go_wp2_with (go_at_call 40; refine C.out.mono ?_; rintro e wb ⟨rfl, he1⟩)
          go_roundw
          case rel => exact ⟨k + 1, by omega, by go_num, by rw [hs.out], he.trans he1⟩
          case measure => simp [intOf]; omega
      · obtain rfl : k = 360 := by omega
        go_wp2
        go_ret2
        exact ⟨ret_int_bool (by simp [freeR, freeOk, h1, h2]) (by simp [freeOk, h1, h2]), he1.trans he⟩
end Go.Proofs.YtekfccfghmggmaaDoor
