/- The reference's certain hues. -/
import Derived.Test.YtekfccfghmggmaaDoorShadeH
import Derived.Test.YtekfccfghmggmaaDoorFirst
namespace Go.Proofs.YtekfccfghmggmaaDoor
open Go.RowKit
set_option linter.unusedVariables false
set_option linter.unusedSimpArgs false
attribute [local go_sem] ExtOf.cell


theorem int_one {m : Nat} (h : (m == 1) = false) : ((m : Int) == 1) = false := by simp at h ⊢; omega
theorem nat_one {m : Nat} (h : (m == 1) = true) : m = 1 := by simpa using h
set_option maxRecDepth 100000 in
set_option maxHeartbeats 1000000 in
theorem CertainHuesS_any (A : Option Addr) (n c : Nat) (xs : List Shade) (nm : ByteArray) (light : Int) (w : World) (h : ShL w A n xs) :
    Calls Tryd.prog 12 #[.slice A n c, .string nm, .int .i64 light] w fun e w' => e = .returned (.tuple #[.int .i64 (sureR xs nm light), .bool (sureOk xs nm light)]) ∧ Ext w w' := by
  have hsm := h.small
  go_enter Tryd.func12, Tryd.ntmps12
  go_wp2
  go_loop [8, 9] (fun a i => ∃ (k : Nat) (at_ : Int), k ≤ n ∧ i = .int .i64 k ∧ a = .int .i64 at_ ∧ LastAt (named nm) xs k at_) (fun _ i => n - (intOf i).toNat)
  case atStart => exact ⟨0, -1, Nat.zero_le _, rfl, rfl, LastAt.zero _ _⟩
  case round =>
    obtain ⟨k, at_, hk, rfl, rfl, hla⟩ := hrel
    by_cases hlt : k < n
    · obtain ⟨b, off, x, rfl, hb, hx, hxn, g0, g1, g2, g3, g4⟩ := h.at_ hlt
      cases hp : named nm x
      · have hp' : (x.Name.toList == nm.toList) = false := hp
        go_wp2
        go_round
        case rel => exact ⟨k + 1, at_, by omega, by go_num, rfl, hla.no hx.out hp⟩
        case measure => simp [intOf]; omega
      · have hp' : (x.Name.toList == nm.toList) = true := hp
        go_wp2
        go_round
        case rel => exact ⟨k + 1, k, by omega, by go_num, rfl, LastAt.yes hx.out hp⟩
        case measure => simp [intOf]; omega
    · obtain rfl : n = k := by omega
      rcases hla with ⟨rfl, hno⟩ | ⟨j, x, hj, rfl, hx, hpx⟩
      · have hany := any_of_none (by have := h.len; omega) hno
        have HN := Lib.hid hno
        clear hno
        cases h1 : shadesOk xs
        all_goals
          go_wp2_with (first | (go_at_call 37; refine (l7Good_L h).mono ?_; rintro e wa ⟨rfl, he1⟩; have hc1 := he1.cells) | (go_at_call 38; refine (l1In_any _ _ _ _).mono ?_; rintro e w' ⟨rfl, rfl⟩))
          go_ret2
          exact ⟨ret_int_bool (by simp [sureR, sureOk, h1, hany]) (by simp [sureOk, h1, hany]), he1⟩
      · have hmem : x ∈ xs := List.mem_of_getElem? hx
        have hany : xs.any (named nm) = true := List.any_eq_true.2 ⟨x, hmem, hpx⟩
        have HX := Lib.hid hx
        have HPX := Lib.hid hpx
        clear hx hpx
        rcases chain2 (shadesOk xs) (inB light 0 100) with h1 | ⟨h1, h2⟩ | ⟨h1, h2⟩
        · go_wp2_with (first | (go_at_call 37; refine (l7Good_L h).mono ?_; rintro e wa ⟨rfl, he1⟩; have hc1 := he1.cells) | (go_at_call 38; refine (l1In_any _ _ _ _).mono ?_; rintro e w' ⟨rfl, rfl⟩))
          go_ret2
          exact ⟨ret_int_bool (by simp [sureR, sureOk, h1, hany]) (by simp [sureOk, h1, hany]), he1⟩
        · go_wp2_with (first | (go_at_call 37; refine (l7Good_L h).mono ?_; rintro e wa ⟨rfl, he1⟩; have hc1 := he1.cells) | (go_at_call 38; refine (l1In_any _ _ _ _).mono ?_; rintro e w' ⟨rfl, rfl⟩))
          go_ret2
          exact ⟨ret_int_bool (by simp [sureR, sureOk, h1, h2, hany]) (by simp [sureOk, h1, h2, hany]), he1⟩
        · have hg := Lib.hid (shadesOk_good h1)
          have hxg := hg.out x hmem
          have hse := Lib.hid (fun k : Nat => sure_eq (light := light) (h := k) h1 hmem HPX.out)
          go_wp2_with (first | (go_at_call 37; refine (l7Good_L h).mono ?_; rintro e wa ⟨rfl, he1⟩; have hc1 := he1.cells) | (go_at_call 38; refine (l1In_any _ _ _ _).mono ?_; rintro e w' ⟨rfl, rfl⟩))
          clear hc1
          have HC := Lib.hid (fun (wr : World) (k : Nat) (he : Ext wa wr) (hk : k < 360) => l7Count_any A n c xs k light wr (h.ext (he1.trans he)) hg.out (by omega) (by omega))
          go_loopw [10, 11] (fun m i wr => ∃ k : Nat, k ≤ 360 ∧ i = .int .i64 k ∧ m = .int .i64 (cnt (sureAt xs nm light) k : Int) ∧ Ext wa wr) (fun _ i _ => 360 - (intOf i).toNat)
          case atStart => exact ⟨0, Nat.zero_le _, rfl, rfl, Ext.refl _⟩
          case round =>
            obtain ⟨k, hk, rfl, rfl, he⟩ := hrel
            have hcl := cnt_le (sureAt xs nm light) k
            by_cases hlt : k < 360
            · obtain ⟨b, off, y, rfl, hb, hy, hyn, g0, g1, g2, g3, g4⟩ := (h.ext (he1.trans he)).at_ hj
              obtain rfl : y = x := by have := hy.out.symm.trans HX.out; injection this
              have C := Lib.hid (fun wr he => HC.out wr k he hlt)
              have hk2 := Lib.hid (hse.out k)
              generalize xs.countP (takes (k : Int) light) = m at *
              cases ht : takes (k : Int) light y
              · have hs := Lib.hid (cnt_no (p := sureAt xs nm light) (h := k) (by rw [hk2.out, ht]; rfl))
                go_wp2_with (go_at_call 39; refine (l7Takes_any y _ _ hxg (by omega) (by omega) _).mono ?_; rintro e wb ⟨rfl, he2⟩)
                go_roundw
                case rel => exact ⟨k + 1, by omega, by go_num, by rw [hs.out], he.trans he2⟩
                case measure => simp [intOf]; omega
              · cases hm : (m == 1)
                · have hs := Lib.hid (cnt_no (p := sureAt xs nm light) (h := k) (by rw [hk2.out, ht, hm]; rfl))
                  have hm2 : ((m : Int) == 1) = false := int_one hm
                  go_wp2_with (first | (go_at_call 39; refine (l7Takes_any y _ _ hxg (by omega) (by omega) _).mono ?_; rintro e wb ⟨rfl, he2⟩) | (go_at_call 40; refine (C.out _ (he.trans he2)).mono ?_; rintro e wc ⟨rfl, he3⟩))
                  go_roundw
                  case rel => exact ⟨k + 1, by omega, by go_num, by rw [hs.out], (he.trans he2).trans he3⟩
                  case measure => simp [intOf]; omega
                · have hs := Lib.hid (cnt_yes (p := sureAt xs nm light) (h := k) (by rw [hk2.out, ht, hm]; rfl))
                  obtain rfl : m = 1 := nat_one hm
                  go_wp2_with (first | (go_at_call 39; refine (l7Takes_any y _ _ hxg (by omega) (by omega) _).mono ?_; rintro e wb ⟨rfl, he2⟩) | (go_at_call 40; refine (C.out _ (he.trans he2)).mono ?_; rintro e wc ⟨rfl, he3⟩))
                  go_roundw
                  case rel => exact ⟨k + 1, by omega, by go_num, by rw [hs.out]; go_num, (he.trans he2).trans he3⟩
                  case measure => simp [intOf]; omega
            · obtain rfl : k = 360 := by omega
              go_wp2
              go_ret2
              exact ⟨ret_int_bool (by simp [sureR, sureOk, h1, h2, hany]) (by simp [sureOk, h1, h2, hany]), he1.trans he⟩
end Go.Proofs.YtekfccfghmggmaaDoor
