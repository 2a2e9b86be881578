/- Lists of shades: the reference's answer on validity; equality; the law of AreShades. -/
import Derived.Test.YtglgflfcelhffaaShadeS2
namespace Go.Proofs.Ytglgflfcelhffaa
open Go.RowKit
set_option linter.unusedVariables false
set_option linter.unusedSimpArgs false
attribute [local go_sem] ExtOf.cell

set_option maxHeartbeats 1000000 in
theorem l7Good_any (A : Option Addr) (n c : Nat) (xs : List Shade) (w : World) (hn : xs.length = n) (hm : n ≤ 1048576) (hw : ∀ x ∈ xs, x.Wf) (hr : Rd w A n 5 (xs.flatMap Shade.cs)) :
    Calls Try.prog 64 #[.slice A n c] w fun e w' => e = .returned (.bool (shadesOk xs)) ∧ Ext w w' := by
  have H := Lib.hid hn
  have HW := Lib.hid hw
  clear hn hw
  go_enter Try.func64, Try.ntmps64
  go_wp2
  go_loopw [3] (fun i wr => ∃ k : Nat, k ≤ n ∧ i = .int .i64 k ∧ adjTo shP xs k ∧ Ext w wr) (fun i _ => n - (intOf i).toNat)
  case atStart => exact ⟨0, Nat.zero_le _, rfl, adjTo_zero _ _, Ext.refl _⟩
  case round =>
    obtain ⟨k, hk, rfl, ha, he⟩ := hrel
    have HA := Lib.hid ha
    clear ha
    by_cases hlt : k < n
    · obtain ⟨b, off, x, rfl, hb, hx, g0, g1, g2, g3, g4⟩ := Shade.at_ (hr.ext he) H.out hlt
      have hxn : x.Name.size ≤ maxLen := (HW.out x (List.mem_of_getElem? hx.out)).1
      cases hs : shOk x.Name x.Hue x.Width x.Dark x.Light
      · have hbad := Lib.hid (shadesOk_bad hx.out (by simp [shP, shGood, hs]))
        clear hr
        go_wp2
        (refine wp_region_ext_lit (by kernel_rfl) (by kernel_rfl) ?_; (repeat (go_big_quiet_step (((go_at_call 60; exact ext_call (l7One_any _ _ _ _ _ (by assumption) _)))))); refine wpQuiet_nil ?_; rintro _ ⟨⟨wq, heq⟩, rfl⟩; (try dsimp only))
        go_wp2
        go_ret
        exact ⟨ret_bool hbad.out.symm, he.trans heq⟩
      · rcases Nat.eq_zero_or_pos k with hk0 | hpos
        · have hgood := Lib.hid (adjTo_succ HA.out hx.out (by simp [shP, shGood, hs, hk0, before_zero, nameLess]))
          have hd : decide (0 < (k : Int)) = false := by simp; omega
          have hd2 : decide (0 < k) = false := by simp; omega
          clear hk0
          clear hr
          go_wp2
          (refine wp_region_ext_lit (by kernel_rfl) (by kernel_rfl) ?_; (repeat (go_big_quiet_step (((go_at_call 60; exact ext_call (l7One_any _ _ _ _ _ (by assumption) _)))))); refine wpQuiet_nil ?_; rintro _ ⟨⟨wq, heq⟩, rfl⟩; (try dsimp only))
          go_wp2
          go_roundw
          case rel => exact ⟨k + 1, by omega, by go_num, hgood.out, he.trans heq⟩
          case measure => simp [intOf]; omega
        · obtain ⟨b', off', y, eA, hb', hy, q0, q1, q2, q3, q4⟩ := Shade.at_ (hr.ext he) H.out (show k - 1 < n by omega)
          injection eA with eA
          injection eA with e1 e2
          subst e1; subst e2
          clear hr
          have hd : decide (0 < (k : Int)) = true := by simp; omega
          have hd2 : decide (0 < k) = true := by simp; omega
          cases hl : Op.bytesLess y.Name.toList x.Name.toList
          · have hbad := Lib.hid (shadesOk_bad hx.out (by simp [shP, shGood, hs, before_pos hpos hy.out, nameLess, hl]))
            go_wp2
            (refine wp_region_ext_lit (by kernel_rfl) (by kernel_rfl) ?_; (repeat (go_big_quiet_step (((go_at_call 60; exact ext_call (l7One_any _ _ _ _ _ (by assumption) _)))))); refine wpQuiet_nil ?_; rintro _ ⟨⟨wq, heq⟩, rfl⟩; (try dsimp only))
            go_wp2
            go_ret
            exact ⟨ret_bool hbad.out.symm, he.trans heq⟩
          · have hgood := Lib.hid (adjTo_succ HA.out hx.out (by simp [shP, shGood, hs, before_pos hpos hy.out, nameLess, hl]))
            go_wp2
            (refine wp_region_ext_lit (by kernel_rfl) (by kernel_rfl) ?_; (repeat (go_big_quiet_step (((go_at_call 60; exact ext_call (l7One_any _ _ _ _ _ (by assumption) _)))))); refine wpQuiet_nil ?_; rintro _ ⟨⟨wq, heq⟩, rfl⟩; (try dsimp only))
            go_wp2
            go_roundw
            case rel => exact ⟨k + 1, by omega, by go_num, hgood.out, he.trans heq⟩
            case measure => simp [intOf]; omega
    · obtain rfl : k = n := by omega
      clear hr
      go_wp2
      go_ret
      exact ⟨ret_bool (shadesOk_end H.out HA.out).symm, he⟩

set_option maxHeartbeats 400000 in
theorem AreShadesI_any (A : Option Addr) (n c : Nat) (xs : List Shade) (w : World) (hn : xs.length = n) (hm : n ≤ 1048576) (hw : ∀ x ∈ xs, x.Wf) (hr : Rd w A n 5 (xs.flatMap Shade.cs)) :
    Calls Try.prog 30 #[.slice A n c] w fun e w' => e = .returned (.bool (shadesOk xs)) ∧ Ext w w' := by
  have h := Lib.hid (areShades_any A n c xs w hn hm hw hr)
  clear hn hw hr
  go_enter Try.func30, Try.ntmps30
  go_wp2_with (go_at_call 65; refine h.out.mono ?_; rintro e wa ⟨rfl, he1⟩)
  go_ret
  exact ⟨rfl, he1⟩

set_option maxHeartbeats 400000 in
theorem AreShadesS_any (A : Option Addr) (n c : Nat) (xs : List Shade) (w : World) (hn : xs.length = n) (hm : n ≤ 1048576) (hw : ∀ x ∈ xs, x.Wf) (hr : Rd w A n 5 (xs.flatMap Shade.cs)) :
    Calls Try.prog 28 #[.slice A n c] w fun e w' => e = .returned (.bool (shadesOk xs)) ∧ Ext w w' := by
  have h := Lib.hid (l7Good_any A n c xs w hn hm hw hr)
  clear hn hw hr
  go_enter Try.func28, Try.ntmps28
  go_wp2_with (go_at_call 64; refine h.out.mono ?_; rintro e wa ⟨rfl, he1⟩)
  go_ret
  exact ⟨rfl, he1⟩

set_option maxHeartbeats 400000 in
theorem eqShade_same (nm : ByteArray) (hue wd dk lt : Int) (w : World) :
    Calls Try.prog 66 #[.agg #[.string nm, .int .i64 hue, .int .i64 wd, .int .i64 dk, .int .i64 lt], .agg #[.string nm, .int .i64 hue, .int .i64 wd, .int .i64 dk, .int .i64 lt]] w fun e w' =>
      e = .returned (.bool true) ∧ Ext w w' := by
  go_enter Try.func66, Try.ntmps66
  go_wp2
  go_ret
  exact ⟨rfl, (by repeat (first | exact Ext.refl _ | assumption | refine Ext.trans ?_ (by assumption) | refine Ext.drew ?_ | refine Ext.drewN ?_ _ | refine Ext.alloc ?_ _))⟩

set_option maxHeartbeats 400000 in
theorem eqShadeS_same (A A' : Option Addr) (n c c' : Nat) (xs : List Shade) (w : World) (hn : xs.length = n) (hm : n ≤ 1048576) (hr : Rd w A n 5 (xs.flatMap Shade.cs)) (hr' : Rd w A' n 5 (xs.flatMap Shade.cs)) :
    Calls Try.prog 31 #[.slice A n c, .slice A' n c'] w fun e w' => e = .returned (.bool true) ∧ Ext w w' := by
  have H := Lib.hid hn
  clear hn
  go_enter Try.func31, Try.ntmps31
  go_wp2
  go_loopw [5] (fun i wr => ∃ k : Nat, k ≤ n ∧ i = .int .i64 k ∧ Ext w wr) (fun i _ => n - (intOf i).toNat)
  case atStart => exact ⟨0, Nat.zero_le _, rfl, Ext.refl _⟩
  case round =>
    obtain ⟨k, hk, rfl, he⟩ := hrel
    by_cases hlt : k < n
    · obtain ⟨b, off, x, rfl, hb, hx, g0, g1, g2, g3, g4⟩ := Shade.at_ (hr.ext he) H.out hlt
      obtain ⟨b', off', y, rfl, hb', hy, q0, q1, q2, q3, q4⟩ := Shade.at_ (hr'.ext he) H.out hlt
      obtain rfl : x = y := by have := hx.out.symm.trans hy.out; injection this
      clear hr hr'
      go_wp2
      (refine wp_region_ext_lit (by kernel_rfl) (by kernel_rfl) ?_; (repeat (go_big_quiet_step (((go_at_call 66; exact ext_call (eqShade_same _ _ _ _ _ _)))))); refine wpQuiet_nil ?_; rintro _ ⟨⟨wq, heq⟩, rfl⟩; (try dsimp only))
      go_wp2
      go_roundw
      case rel => exact ⟨k + 1, by omega, by go_num, he.trans heq⟩
      case measure => simp [intOf]; omega
    · obtain rfl : k = n := by omega
      go_wp2
      go_ret
      exact ⟨rfl, he⟩

set_option maxHeartbeats 1000000 in
theorem FnExactAreShades_any (A : Option Addr) (n c : Nat) (xs : List Shade) (w : World) (hn : xs.length = n) (hm : n ≤ maxLen) (hw : ∀ x ∈ xs, x.Wf) (hr : Rd w A n 5 (xs.flatMap Shade.cs)) :
    Calls Try.prog 8 #[.slice A n c] w fun e w' => e = .returned (.bool true) ∧ Ext w w' := by
  have H := Lib.hid hn
  have HW := Lib.hid hw
  have HR := Lib.hid hr
  clear hn hw hr
  go_enter Try.func8, Try.ntmps8
  go_wp2_with fail
  refine (szShadeS_any _ _ _ xs _ _ (by omega) (by omega) H.out hm HW.out HR.out).mono ?_
  rintro e w1 ⟨r, rfl, r1, r2, r3, e1⟩
  by_cases hr0 : r < 0
  · go_wp2
    go_ret
    exact ⟨rfl, e1⟩
  have hn1 : (n : Int) ≤ 1048576 := r3 (by omega)
  go_wp2_with fail
  refine (toShadeS_any _ _ _ xs _ H.out (by omega) (HR.out.ext e1)).mono ?_
  rintro e w2 ⟨rfl, o2, e2⟩
  have R2 := Lib.hid (Rd.own o2)
  clear o2
  go_wp2_with fail
  refine (AreShadesS_any _ _ _ xs _ H.out (by omega) HW.out R2.out).mono ?_
  rintro e w3 ⟨rfl, e3⟩
  go_wp2_with fail
  refine (toShadeS_any _ _ _ xs _ H.out (by omega) (HR.out.ext (e1.trans (e2.trans e3)))).mono ?_
  rintro e w4 ⟨rfl, o4, e4⟩
  have R4 := Lib.hid (Rd.own o4)
  clear o4
  go_wp2_with fail
  refine (AreShadesI_any _ _ _ xs _ H.out (by omega) HW.out R4.out).mono ?_
  rintro e w5 ⟨rfl, e5⟩
  go_wp2_with fail
  refine (toShadeS_any _ _ _ xs _ H.out (by omega) (HR.out.ext (e1.trans (e2.trans (e3.trans (e4.trans e5)))))).mono ?_
  rintro e w6 ⟨rfl, o6, e6⟩
  have R6 := Lib.hid (Rd.own o6)
  clear o6
  go_wp2_with fail
  refine (eqShadeS_same _ _ _ _ _ xs _ H.out (by omega) (R4.out.ext (e5.trans e6)) R6.out).mono ?_
  rintro e w7 ⟨rfl, e7⟩
  go_wp2
  go_ret
  exact ⟨rfl, e1.trans (e2.trans (e3.trans (e4.trans (e5.trans (e6.trans e7)))))⟩
end Go.Proofs.Ytglgflfcelhffaa
