/- The reference's certain hues. -/
import Derived.Test.YtglgflfcelhffaaShadeH
namespace Go.Proofs.Ytglgflfcelhffaa
open Go.RowKit
set_option linter.unusedVariables false
set_option linter.unusedSimpArgs false
attribute [local go_sem] ExtOf.cell

/-- The last place that fits among the first k, or -1. -/
def LastAt {α : Type} (p : α → Bool) (xs : List α) (k : Nat) (a : Int) : Prop := (a = -1 ∧ noneTo p xs k) ∨ ∃ (j : Nat) (x : α), j < k ∧ a = j ∧ xs[j]? = some x ∧ p x = true
theorem LastAt.zero {α : Type} (p : α → Bool) (xs : List α) : LastAt p xs 0 (-1) := .inl ⟨rfl, noneTo_zero _ _⟩
theorem LastAt.no {α : Type} {p : α → Bool} {xs : List α} {k : Nat} {a : Int} {x : α} (h : LastAt p xs k a) (hx : xs[k]? = some x) (hp : p x = false) : LastAt p xs (k + 1) a := by
  rcases h with ⟨e, h⟩ | ⟨j, y, hj, e, hy, hpy⟩
  · exact .inl ⟨e, noneTo_succ h hx hp⟩
  · exact .inr ⟨j, y, by omega, e, hy, hpy⟩
theorem LastAt.yes {α : Type} {p : α → Bool} {xs : List α} {k : Nat} {x : α} (hx : xs[k]? = some x) (hp : p x = true) : LastAt p xs (k + 1) k := .inr ⟨k, x, by omega, rfl, hx, hp⟩
theorem LastAt.bound {α : Type} {p : α → Bool} {xs : List α} {k : Nat} {a : Int} (h : LastAt p xs k a) : -1 ≤ a ∧ a < k := by
  rcases h with ⟨e, h⟩ | ⟨j, y, hj, e, hy, hpy⟩ <;> omega
theorem any_of_none {α : Type} {p : α → Bool} {xs : List α} {n : Nat} (hn : xs.length ≤ n) (h : noneTo p xs n) : xs.any p = false := by
  rw [List.any_eq_false]
  intro x hx
  have := h x (by rw [List.take_of_length_le hn]; exact hx)
  simp [this]

theorem int_one {m : Nat} (h : (m == 1) = false) : ((m : Int) == 1) = false := by simp at h ⊢; omega
theorem nat_one {m : Nat} (h : (m == 1) = true) : m = 1 := by simpa using h
set_option maxRecDepth 100000 in
set_option maxHeartbeats 1000000 in
theorem CertainHuesS_any (A : Option Addr) (n c : Nat) (xs : List Shade) (nm : ByteArray) (light : Int) (w : World) (h : ShL w A n xs) :
    Calls Try.prog 34 #[.slice A n c, .string nm, .int .i64 light] w fun e w' => e = .returned (.tuple #[.int .i64 (sureR xs nm light), .bool (sureOk xs nm light)]) ∧ Ext w w' := by
  have hsm := h.small
  go_enter Try.func34, Try.ntmps34
  go_wp2
  go_loop [8, 9] (fun a i => ∃ (k : Nat) (at_ : Int), k ≤ n ∧ i = .int .i64 k ∧ a = .int .i64 at_ ∧ LastAt (named nm) xs k at_) (fun _ i => n - (intOf i).toNat)
  case atStart => exact ⟨0, -1, Nat.zero_le _, rfl, rfl, LastAt.zero _ _⟩
  case round =>
    obtain ⟨k, at_, hk, rfl, rfl, hla⟩ := hrel
    by_cases hlt : k < n
    · obtain ⟨b, off, x, rfl, hb, hx, hxn, g0, g1, g2, g3, g4⟩ := h.at_ hlt
      cases hp : named nm x
      · have hp' : (x.Name.toList == nm.toList) = false := hp
        go_wp2
        go_round
        case rel => exact ⟨k + 1, at_, by omega, by go_num, rfl, hla.no hx.out hp⟩
        case measure => simp [intOf]; omega
      · have hp' : (x.Name.toList == nm.toList) = true := hp
        go_wp2
        go_round
        case rel => exact ⟨k + 1, k, by omega, by go_num, rfl, LastAt.yes hx.out hp⟩
        case measure => simp [intOf]; omega
    · obtain rfl : n = k := by omega
      rcases hla with ⟨rfl, hno⟩ | ⟨j, x, hj, rfl, hx, hpx⟩
      · have hany := any_of_none (by have := h.len; omega) hno
        have HN := Lib.hid hno
        clear hno
        cases h1 : shadesOk xs
        all_goals
          go_wp2_with (first | (go_at_call 64; refine (l7Good_L h).mono ?_; rintro e wa ⟨rfl, he1⟩; have hc1 := he1.cells) | (go_at_call 67; refine (l1In_any _ _ _ _).mono ?_; rintro e w' ⟨rfl, rfl⟩))
          go_ret2
          exact ⟨ret_int_bool (by simp [sureR, sureOk, h1, hany]) (by simp [sureOk, h1, hany]), he1⟩
      · have hmem : x ∈ xs := List.mem_of_getElem? hx
        have hany : xs.any (named nm) = true := List.any_eq_true.2 ⟨x, hmem, hpx⟩
        have HX := Lib.hid hx
        have HPX := Lib.hid hpx
        clear hx hpx
        rcases chain2 (shadesOk xs) (inB light 0 100) with h1 | ⟨h1, h2⟩ | ⟨h1, h2⟩
        · go_wp2_with (first | (go_at_call 64; refine (l7Good_L h).mono ?_; rintro e wa ⟨rfl, he1⟩; have hc1 := he1.cells) | (go_at_call 67; refine (l1In_any _ _ _ _).mono ?_; rintro e w' ⟨rfl, rfl⟩))
          go_ret2
          exact ⟨ret_int_bool (by simp [sureR, sureOk, h1, hany]) (by simp [sureOk, h1, hany]), he1⟩
        · go_wp2_with (first | (go_at_call 64; refine (l7Good_L h).mono ?_; rintro e wa ⟨rfl, he1⟩; have hc1 := he1.cells) | (go_at_call 67; refine (l1In_any _ _ _ _).mono ?_; rintro e w' ⟨rfl, rfl⟩))
          go_ret2
          exact ⟨ret_int_bool (by simp [sureR, sureOk, h1, h2, hany]) (by simp [sureOk, h1, h2, hany]), he1⟩
        · have hg := Lib.hid (shadesOk_good h1)
          have hxg := hg.out x hmem
          have hse := Lib.hid (fun k : Nat => sure_eq (light := light) (h := k) h1 hmem HPX.out)
          go_wp2_with (first | (go_at_call 64; refine (l7Good_L h).mono ?_; rintro e wa ⟨rfl, he1⟩; have hc1 := he1.cells) | (go_at_call 67; refine (l1In_any _ _ _ _).mono ?_; rintro e w' ⟨rfl, rfl⟩))
          clear hc1
          have HC := Lib.hid (fun (wr : World) (k : Nat) (he : Ext wa wr) (hk : k < 360) => l7Count_any A n c xs k light wr (h.ext (he1.trans he)) hg.out (by omega) (by omega))
          go_loopw [10, 11] (fun m i wr => ∃ k : Nat, k ≤ 360 ∧ i = .int .i64 k ∧ m = .int .i64 (cnt (sureAt xs nm light) k : Int) ∧ Ext wa wr) (fun _ i _ => 360 - (intOf i).toNat)
          case atStart => exact ⟨0, Nat.zero_le _, rfl, rfl, Ext.refl _⟩
          case round =>
            obtain ⟨k, hk, rfl, rfl, he⟩ := hrel
            have hcl := cnt_le (sureAt xs nm light) k
            by_cases hlt : k < 360
            · obtain ⟨b, off, y, rfl, hb, hy, hyn, g0, g1, g2, g3, g4⟩ := (h.ext (he1.trans he)).at_ hj
              obtain rfl : y = x := by have := hy.out.symm.trans HX.out; injection this
              have C := Lib.hid (fun wr he => HC.out wr k he hlt)
              have hk2 := Lib.hid (hse.out k)
              generalize xs.countP (takes (k : Int) light) = m at *
              cases ht : takes (k : Int) light y
              · have hs := Lib.hid (cnt_no (p := sureAt xs nm light) (h := k) (by rw [hk2.out, ht]; rfl))
                go_wp2_with (go_at_call 73; refine (l7Takes_any y _ _ hxg (by omega) (by omega) _).mono ?_; rintro e wb ⟨rfl, he2⟩)
                go_roundw
                case rel => exact ⟨k + 1, by omega, by go_num, by rw [hs.out], he.trans he2⟩
                case measure => simp [intOf]; omega
              · cases hm : (m == 1)
                · have hs := Lib.hid (cnt_no (p := sureAt xs nm light) (h := k) (by rw [hk2.out, ht, hm]; rfl))
                  have hm2 : ((m : Int) == 1) = false := int_one hm
                  go_wp2_with (first | (go_at_call 73; refine (l7Takes_any y _ _ hxg (by omega) (by omega) _).mono ?_; rintro e wb ⟨rfl, he2⟩) | (go_at_call 68; refine (C.out _ (he.trans he2)).mono ?_; rintro e wc ⟨rfl, he3⟩))
                  go_roundw
                  case rel => exact ⟨k + 1, by omega, by go_num, by rw [hs.out], (he.trans he2).trans he3⟩
                  case measure => simp [intOf]; omega
                · have hs := Lib.hid (cnt_yes (p := sureAt xs nm light) (h := k) (by rw [hk2.out, ht, hm]; rfl))
                  obtain rfl : m = 1 := nat_one hm
                  go_wp2_with (first | (go_at_call 73; refine (l7Takes_any y _ _ hxg (by omega) (by omega) _).mono ?_; rintro e wb ⟨rfl, he2⟩) | (go_at_call 68; refine (C.out _ (he.trans he2)).mono ?_; rintro e wc ⟨rfl, he3⟩))
                  go_roundw
                  case rel => exact ⟨k + 1, by omega, by go_num, by rw [hs.out]; go_num, (he.trans he2).trans he3⟩
                  case measure => simp [intOf]; omega
            · obtain rfl : k = 360 := by omega
              go_wp2
              go_ret2
              exact ⟨ret_int_bool (by simp [sureR, sureOk, h1, h2, hany]) (by simp [sureOk, h1, h2, hany]), he1.trans he⟩
end Go.Proofs.Ytglgflfcelhffaa
