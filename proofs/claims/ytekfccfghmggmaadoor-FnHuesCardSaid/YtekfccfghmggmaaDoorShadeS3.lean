/- Lists of shades: the reference's answer on validity; equality; the law of AreShades. -/
import Derived.Test.YtekfccfghmggmaaDoorShadeS2
namespace Go.Proofs.YtekfccfghmggmaaDoor
open Go.RowKit
set_option linter.unusedVariables false
set_option linter.unusedSimpArgs false
attribute [local go_sem] ExtOf.cell

set_option maxHeartbeats 1000000 in
theorem l7Good_any (A : Option Addr) (n c : Nat) (xs : List Shade) (w : World) (hn : xs.length = n) (hm : n ≤ 1048576) (hw : ∀ x ∈ xs, x.Wf) (hr : Rd w A n 5 (xs.flatMap Shade.cs)) :
    Calls Tryd.prog 37 #[.slice A n c] w fun e w' => e = .returned (.bool (shadesOk xs)) ∧ Ext w w' := by
  have H := Lib.hid hn
  have HW := Lib.hid hw
  clear hn hw
  go_enter Tryd.func37, Tryd.ntmps37
  go_wp2
  go_loopw [3] (fun i wr => ∃ k : Nat, k ≤ n ∧ i = .int .i64 k ∧ adjTo shP xs k ∧ Ext w wr) (fun i _ => n - (intOf i).toNat)
  case atStart => exact ⟨0, Nat.zero_le _, rfl, adjTo_zero _ _, Ext.refl _⟩
  case round =>
    obtain ⟨k, hk, rfl, ha, he⟩ := hrel
    have HA := Lib.hid ha
    clear ha
    by_cases hlt : k < n
    · obtain ⟨b, off, x, rfl, hb, hx, g0, g1, g2, g3, g4⟩ := Shade.at_ (hr.ext he) H.out hlt
      have hxn : x.Name.size ≤ maxLen := (HW.out x (List.mem_of_getElem? hx.out)).1
      cases hs : shOk x.Name x.Hue x.Width x.Dark x.Light
      · have hbad := Lib.hid (shadesOk_bad hx.out (by simp [shP, shGood, hs]))
        clear hr
        go_wp2
        (refine wp_region_ext_lit (by kernel_rfl) (by kernel_rfl) ?_; (repeat (go_big_quiet_step (((go_at_call 44; exact ext_call (l7One_any _ _ _ _ _ (by assumption) _)))))); refine wpQuiet_nil ?_; rintro wq ⟨⟨_, heq⟩, rfl⟩; (try dsimp only))
        go_wp2
        go_ret
        exact ⟨ret_bool hbad.out.symm, he.trans heq⟩
      · rcases Nat.eq_zero_or_pos k with hk0 | hpos
        · have hgood := Lib.hid (adjTo_succ HA.out hx.out (by simp [shP, shGood, hs, hk0, before_zero, nameLess]))
          have hd : decide (0 < (k : Int)) = false := by simp; omega
          have hd2 : decide (0 < k) = false := by simp; omega
          clear hk0
          clear hr
          go_wp2
          (refine wp_region_ext_lit (by kernel_rfl) (by kernel_rfl) ?_; (repeat (go_big_quiet_step (((go_at_call 44; exact ext_call (l7One_any _ _ _ _ _ (by assumption) _)))))); refine wpQuiet_nil ?_; rintro wq ⟨⟨_, heq⟩, rfl⟩; (try dsimp only))
          go_wp2
          go_roundw
          case rel => exact ⟨k + 1, by omega, by go_num, hgood.out, he.trans heq⟩
          case measure => simp [intOf]; omega
        · obtain ⟨b', off', y, eA, hb', hy, q0, q1, q2, q3, q4⟩ := Shade.at_ (hr.ext he) H.out (show k - 1 < n by omega)
          injection eA with eA
          injection eA with e1 e2
          subst e1; subst e2
          clear hr
          have hd : decide (0 < (k : Int)) = true := by simp; omega
          have hd2 : decide (0 < k) = true := by simp; omega
          cases hl : Op.bytesLess y.Name.toList x.Name.toList
          · have hbad := Lib.hid (shadesOk_bad hx.out (by simp [shP, shGood, hs, before_pos hpos hy.out, nameLess, hl]))
            go_wp2
            (refine wp_region_ext_lit (by kernel_rfl) (by kernel_rfl) ?_; (repeat (go_big_quiet_step (((go_at_call 44; exact ext_call (l7One_any _ _ _ _ _ (by assumption) _)))))); refine wpQuiet_nil ?_; rintro wq ⟨⟨_, heq⟩, rfl⟩; (try dsimp only))
            go_wp2
            go_ret
            exact ⟨ret_bool hbad.out.symm, he.trans heq⟩
          · have hgood := Lib.hid (adjTo_succ HA.out hx.out (by simp [shP, shGood, hs, before_pos hpos hy.out, nameLess, hl]))
            go_wp2
            (refine wp_region_ext_lit (by kernel_rfl) (by kernel_rfl) ?_; (repeat (go_big_quiet_step (((go_at_call 44; exact ext_call (l7One_any _ _ _ _ _ (by assumption) _)))))); refine wpQuiet_nil ?_; rintro wq ⟨⟨_, heq⟩, rfl⟩; (try dsimp only))
            go_wp2
            go_roundw
            case rel => exact ⟨k + 1, by omega, by go_num, hgood.out, he.trans heq⟩
            case measure => simp [intOf]; omega
    · obtain rfl : k = n := by omega
      clear hr
      go_wp2
      go_ret
      exact ⟨ret_bool (shadesOk_end H.out HA.out).symm, he⟩



end Go.Proofs.YtekfccfghmggmaaDoor
