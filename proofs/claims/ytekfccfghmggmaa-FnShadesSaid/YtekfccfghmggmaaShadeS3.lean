/- Lists of shades: the reference's answer on validity; equality; the law of AreShades. -/
import Derived.Test.YtekfccfghmggmaaShadeS2
namespace Go.Proofs.Ytekfccfghmggmaa
open Go.RowKit
set_option linter.unusedVariables false
set_option linter.unusedSimpArgs false
attribute [local go_sem] ExtOf.cell

set_option maxHeartbeats 1000000 in
theorem l7Good_any (A : Option Addr) (n c : Nat) (xs : List Shade) (w : World) (hn : xs.length = n) (hm : n ≤ 1048576) (hw : ∀ x ∈ xs, x.Wf) (hr : Rd w A n 5 (xs.flatMap Shade.cs)) :
    Calls Try.prog 32 #[.slice A n c] w fun e w' => e = .returned (.bool (shadesOk xs)) ∧ Ext w w' := by
  have H := Lib.hid hn
  have HW := Lib.hid hw
  clear hn hw
  go_enter Try.func32, Try.ntmps32
  go_wp2
  go_loopw [3] (fun i wr => ∃ k : Nat, k ≤ n ∧ i = .int .i64 k ∧ adjTo shP xs k ∧ Ext w wr) (fun i _ => n - (intOf i).toNat)
  case atStart => exact ⟨0, Nat.zero_le _, rfl, adjTo_zero _ _, Ext.refl _⟩
  case round =>
    obtain ⟨k, hk, rfl, ha, he⟩ := hrel
    have HA := Lib.hid ha
    clear ha
    by_cases hlt : k < n
    · obtain ⟨b, off, x, rfl, hb, hx, g0, g1, g2, g3, g4⟩ := Shade.at_ (hr.ext he) H.out hlt
      have hxn : x.Name.size ≤ maxLen := (HW.out x (List.mem_of_getElem? hx.out)).1
      cases hs : shOk x.Name x.Hue x.Width x.Dark x.Light
      · have hbad := Lib.hid (shadesOk_bad hx.out (by simp [shP, shGood, hs]))
        clear hr
        go_wp2
        (refine wp_region_ext_lit (by kernel_rfl) (by kernel_rfl) ?_; (repeat (go_big_quiet_step (((go_at_call 55; exact ext_call (l7One_any _ _ _ _ _ (by assumption) _)))))); refine wpQuiet_nil ?_; rintro wq ⟨⟨_, heq⟩, rfl⟩; (try dsimp only))
        go_wp2
        go_ret
        exact ⟨ret_bool hbad.out.symm, he.trans heq⟩
      · rcases Nat.eq_zero_or_pos k with hk0 | hpos
        · have hgood := Lib.hid (adjTo_succ HA.out hx.out (by simp [shP, shGood, hs, hk0, before_zero, nameLess]))
          have hd : decide (0 < (k : Int)) = false := by simp; omega
          have hd2 : decide (0 < k) = false := by simp; omega
          clear hk0
          clear hr
          go_wp2
          (refine wp_region_ext_lit (by kernel_rfl) (by kernel_rfl) ?_; (repeat (go_big_quiet_step (((go_at_call 55; exact ext_call (l7One_any _ _ _ _ _ (by assumption) _)))))); refine wpQuiet_nil ?_; rintro wq ⟨⟨_, heq⟩, rfl⟩; (try dsimp only))
          go_wp2
          go_roundw
          case rel => exact ⟨k + 1, by omega, by go_num, hgood.out, he.trans heq⟩
          case measure => simp [intOf]; omega
        · obtain ⟨b', off', y, eA, hb', hy, q0, q1, q2, q3, q4⟩ := Shade.at_ (hr.ext he) H.out (show k - 1 < n by omega)
          injection eA with eA
          injection eA with e1 e2
          subst e1; subst e2
          clear hr
          have hd : decide (0 < (k : Int)) = true := by simp; omega
          have hd2 : decide (0 < k) = true := by simp; omega
          cases hl : Op.bytesLess y.Name.toList x.Name.toList
          · have hbad := Lib.hid (shadesOk_bad hx.out (by simp [shP, shGood, hs, before_pos hpos hy.out, nameLess, hl]))
            go_wp2
            (refine wp_region_ext_lit (by kernel_rfl) (by kernel_rfl) ?_; (repeat (go_big_quiet_step (((go_at_call 55; exact ext_call (l7One_any _ _ _ _ _ (by assumption) _)))))); refine wpQuiet_nil ?_; rintro wq ⟨⟨_, heq⟩, rfl⟩; (try dsimp only))
            go_wp2
            go_ret
            exact ⟨ret_bool hbad.out.symm, he.trans heq⟩
          · have hgood := Lib.hid (adjTo_succ HA.out hx.out (by simp [shP, shGood, hs, before_pos hpos hy.out, nameLess, hl]))
            go_wp2
            (refine wp_region_ext_lit (by kernel_rfl) (by kernel_rfl) ?_; (repeat (go_big_quiet_step (((go_at_call 55; exact ext_call (l7One_any _ _ _ _ _ (by assumption) _)))))); refine wpQuiet_nil ?_; rintro wq ⟨⟨_, heq⟩, rfl⟩; (try dsimp only))
            go_wp2
            go_roundw
            case rel => exact ⟨k + 1, by omega, by go_num, hgood.out, he.trans heq⟩
            case measure => simp [intOf]; omega
    · obtain rfl : k = n := by omega
      clear hr
      go_wp2
      go_ret
      exact ⟨ret_bool (shadesOk_end H.out HA.out).symm, he⟩

set_option maxHeartbeats 400000 in
theorem AreShadesI_any (A : Option Addr) (n c : Nat) (xs : List Shade) (w : World) (hn : xs.length = n) (hm : n ≤ 1048576) (hw : ∀ x ∈ xs, x.Wf) (hr : Rd w A n 5 (xs.flatMap Shade.cs)) :
    Calls Try.prog 29 #[.slice A n c] w fun e w' => e = .returned (.bool (shadesOk xs)) ∧ Ext w w' := by
  have h := Lib.hid (areShades_any A n c xs w hn hm hw hr)
  clear hn hw hr
  go_enter Try.func29, Try.ntmps29
  go_wp2_with (go_at_call 35; refine h.out.mono ?_; rintro e wa ⟨rfl, he1⟩)
  go_ret
  exact ⟨rfl, he1⟩

set_option maxHeartbeats 400000 in
theorem AreShadesS_any (A : Option Addr) (n c : Nat) (xs : List Shade) (w : World) (hn : xs.length = n) (hm : n ≤ 1048576) (hw : ∀ x ∈ xs, x.Wf) (hr : Rd w A n 5 (xs.flatMap Shade.cs)) :
    Calls Try.prog 30 #[.slice A n c] w fun e w' => e = .returned (.bool (shadesOk xs)) ∧ Ext w w' := by
  have h := Lib.hid (l7Good_any A n c xs w hn hm hw hr)
  clear hn hw hr
  go_enter Try.func30, Try.ntmps30
  go_wp2_with (go_at_call 32; refine h.out.mono ?_; rintro e wa ⟨rfl, he1⟩)
  go_ret
  exact ⟨rfl, he1⟩

set_option maxHeartbeats 400000 in
theorem eqShade_same (nm : ByteArray) (hue wd dk lt : Int) (w : World) :
    Calls Try.prog 38 #[.agg #[.string nm, .int .i64 hue, .int .i64 wd, .int .i64 dk, .int .i64 lt], .agg #[.string nm, .int .i64 hue, .int .i64 wd, .int .i64 dk, .int .i64 lt]] w fun e w' =>
      e = .returned (.bool true) ∧ Ext w w' := by
  go_enter Try.func38, Try.ntmps38
  go_wp2
  go_ret
  exact ⟨rfl, (by repeat (first | exact Ext.refl _ | assumption | refine Ext.trans ?_ (by assumption) | refine Ext.drew ?_ | refine Ext.drewN ?_ _ | refine Ext.alloc ?_ _))⟩

set_option maxHeartbeats 400000 in
theorem eqShadeS_same (A A' : Option Addr) (n c c' : Nat) (xs : List Shade) (w : World) (hn : xs.length = n) (hm : n ≤ 1048576) (hr : Rd w A n 5 (xs.flatMap Shade.cs)) (hr' : Rd w A' n 5 (xs.flatMap Shade.cs)) :
    Calls Try.prog 10 #[.slice A n c, .slice A' n c'] w fun e w' => e = .returned (.bool true) ∧ Ext w w' := by
  have H := Lib.hid hn
  clear hn
  go_enter Try.func10, Try.ntmps10
  go_wp2
  go_loopw [5] (fun i wr => ∃ k : Nat, k ≤ n ∧ i = .int .i64 k ∧ Ext w wr) (fun i _ => n - (intOf i).toNat)
  case atStart => exact ⟨0, Nat.zero_le _, rfl, Ext.refl _⟩
  case round =>
    obtain ⟨k, hk, rfl, he⟩ := hrel
    by_cases hlt : k < n
    · obtain ⟨b, off, x, rfl, hb, hx, g0, g1, g2, g3, g4⟩ := Shade.at_ (hr.ext he) H.out hlt
      obtain ⟨b', off', y, rfl, hb', hy, q0, q1, q2, q3, q4⟩ := Shade.at_ (hr'.ext he) H.out hlt
      obtain rfl : x = y := by have := hx.out.symm.trans hy.out; injection this
      clear hr hr'
      go_wp2
      (refine wp_region_ext_lit (by kernel_rfl) (by kernel_rfl) ?_; (repeat (go_big_quiet_step (((go_at_call 38; exact ext_call (eqShade_same _ _ _ _ _ _)))))); refine wpQuiet_nil ?_; rintro wq ⟨⟨_, heq⟩, rfl⟩; (try dsimp only))
      go_wp2
      go_roundw
      case rel => exact ⟨k + 1, by omega, by go_num, he.trans heq⟩
      case measure => simp [intOf]; omega
    · obtain rfl : k = n := by omega
      go_wp2
      go_ret
      exact ⟨rfl, he⟩

end Go.Proofs.Ytekfccfghmggmaa
