/- Valid timetables: the reference (made by wip/mailsv.py). -/
import Derived.Test.YtmgpdenofkloeaaDoorMailV
namespace Go.Proofs.YtmgpdenofkloeaaDoor
open Go.RowKit
set_option linter.unusedVariables false
set_option linter.unusedSimpArgs false
attribute [local go_sem] ExtOf.cell

def mailCode (x : Mail) : Int := ((x.Leave * 10 + x.From) * 10 + x.To) * 10000 + x.Arrive
theorem mlOk_all {l f t a : Int} (h : mlOk l f t a = true) : (0 ≤ f ∧ f ≤ 9) ∧ (0 ≤ t ∧ t ≤ 9) ∧ f ≠ t ∧ (0 ≤ a ∧ a ≤ 9999) ∧ (0 ≤ l ∧ l ≤ a - 1) := by
  simp only [mlOk, inB, Bool.and_eq_true, decide_eq_true_eq, bne_iff_ne, ne_eq, Bool.not_eq_true', decide_eq_false_iff_not] at h
  omega
theorem mailLess_code {x y : Mail} (hx : MailGood x = true) (hy : MailGood y = true) : mailLess y x = !(decide (mailCode x ≤ mailCode y)) := by
  obtain ⟨⟨a1, a2⟩, ⟨a3, a4⟩, _, ⟨a5, a6⟩, a7, a8⟩ := mlOk_all (show mlOk x.Leave x.From x.To x.Arrive = true from hx)
  obtain ⟨⟨b1, b2⟩, ⟨b3, b4⟩, _, ⟨b5, b6⟩, b7, b8⟩ := mlOk_all (show mlOk y.Leave y.From y.To y.Arrive = true from hy)
  have z1 : ∀ a : Int, cmpI a a = 0 := fun a => cmpI_of_eq rfl
  unfold mailLess mailCode
  rcases Int.lt_trichotomy y.Leave x.Leave with h1 | h1 | h1
  · rw [Bool.eq_iff_iff]
    simp [orI, cmpI_of_lt h1]
    omega
  · rcases Int.lt_trichotomy y.From x.From with h2 | h2 | h2
    · rw [Bool.eq_iff_iff]
      simp [orI, h1, z1, cmpI_of_lt h2]
      omega
    · rcases Int.lt_trichotomy y.To x.To with h3 | h3 | h3
      · rw [Bool.eq_iff_iff]
        simp [orI, h1, h2, z1, cmpI_of_lt h3]
        omega
      · rcases Int.lt_trichotomy y.Arrive x.Arrive with h4 | h4 | h4
        · rw [Bool.eq_iff_iff]
          simp [orI, h1, h2, h3, z1, cmpI_of_lt h4]
          try omega
        · simp [orI, h1, h2, h3, h4, z1]
        · rw [Bool.eq_iff_iff]
          simp [orI, h1, h2, h3, z1, cmpI_of_gt h4]
          omega
      · rw [Bool.eq_iff_iff]
        simp [orI, h1, h2, z1, cmpI_of_gt h3]
        omega
    · rw [Bool.eq_iff_iff]
      simp [orI, h1, z1, cmpI_of_gt h2]
      omega
  · rw [Bool.eq_iff_iff]
    simp [orI, cmpI_of_gt h1]
    omega

set_option maxHeartbeats 400000 in
theorem l9Code_any (x : Mail) (hx : MailGood x = true) (w : World) :
    Calls Tryd.prog 39 #[.agg #[.int .i64 x.Leave, .int .i64 x.From, .int .i64 x.To, .int .i64 x.Arrive]] w fun e w' => e = .returned (.int .i64 (mailCode x)) ∧ Ext w w' := by
  obtain ⟨⟨a1, a2⟩, ⟨a3, a4⟩, _, ⟨a5, a6⟩, a7, a8⟩ := mlOk_all (show mlOk x.Leave x.From x.To x.Arrive = true from hx)
  unfold mailCode
  go_enter Tryd.func39, Tryd.ntmps39
  go_wp2
  go_ret
  exact ⟨ret_int (by omega), (by repeat (first | exact Ext.refl _ | assumption | refine Ext.trans ?_ (by assumption) | refine Ext.drew ?_ | refine Ext.drewN ?_ _ | refine Ext.alloc ?_ _))⟩


set_option maxRecDepth 100000 in
set_option maxHeartbeats 1000000 in
theorem l9Good_any (A : Option Addr) (n c : Nat) (xs : List Mail) (w : World) (h : MailL w A n xs) :
    Calls Tryd.prog 42 #[.slice A n c] w fun e w' => e = .returned (.bool (MailsOk xs)) ∧ Ext w w' := by
  have hsm := h.small
  have HW := Lib.hid h.wf
  go_enter Tryd.func42, Tryd.ntmps42
  go_wp2
  go_loopw [3] (fun i wr => ∃ k : Nat, k ≤ n ∧ i = .int .i64 k ∧ adjTo MailP xs k ∧ Ext w wr) (fun i _ => n - (intOf i).toNat)
  case atStart => exact ⟨0, Nat.zero_le _, rfl, adjTo_zero _ _, Ext.refl _⟩
  case round =>
    obtain ⟨k, hk, rfl, ha, he⟩ := hrel
    have HA := Lib.hid ha
    clear ha
    by_cases hlt : k < n
    · obtain ⟨b, off, x, rfl, hb, hx, g0, g1, g2, g3⟩ := (h.ext he).at_ hlt
      obtain ⟨ha1, ha2⟩ := MailWf_arrive (HW.out x (List.mem_of_getElem? hx.out))
      cases hs : mlOk x.Leave x.From x.To x.Arrive
      · have hbad := Lib.hid (MailsOk_bad hx.out (by simp [MailP, MailGood, hs]))
        go_wp2
        (refine wp_region_ext_lit (by kernel_rfl) (by kernel_rfl) ?_; (repeat (go_big_quiet_step ((first | (go_at_call 35; exact ext_call (l9One_any _ _ _ _ _ (by omega) (by omega))) | (go_at_call 39; exact ext_call (l9Code_any _ (by assumption) _)))))); refine wpQuiet_nil ?_; rintro wq ⟨⟨_, heq⟩, rfl⟩; (try dsimp only))
        go_wp2
        go_ret
        exact ⟨ret_bool hbad.out.symm, he.trans heq⟩
      · have hxg : MailGood x = true := hs
        rcases Nat.eq_zero_or_pos k with hk0 | hpos
        · have hgood := Lib.hid (adjTo_succ HA.out hx.out (by simp [MailP, MailGood, hs, hk0, before_zero]))
          have hd1 : decide (0 < (k : Int)) = false := by simp; omega
          have hd2 : decide (0 < k) = false := by simp; omega
          clear hk0
          go_wp2
          (refine wp_region_ext_lit (by kernel_rfl) (by kernel_rfl) ?_; (repeat (go_big_quiet_step ((first | (go_at_call 35; exact ext_call (l9One_any _ _ _ _ _ (by omega) (by omega))) | (go_at_call 39; exact ext_call (l9Code_any _ (by assumption) _)))))); refine wpQuiet_nil ?_; rintro wq ⟨⟨_, heq⟩, rfl⟩; (try dsimp only))
          go_wp2
          go_roundw
          case rel => exact ⟨k + 1, by omega, by go_num, hgood.out, he.trans heq⟩
          case measure => simp [intOf]; omega
        · obtain ⟨b', off', y, eA, hb', hy, q0, q1, q2, q3⟩ := (h.ext he).at_ (show k - 1 < n by omega)
          injection eA with eA
          injection eA with e1 e2
          subst e1; subst e2
          have hyg : MailGood y = true := MailP_at HA.out (by omega) hy.out
          have hP := MailP_pos (x := x) hpos hy.out
          rw [mailLess_code hxg hyg, hxg, Bool.true_and] at hP
          have hd1 : decide (0 < (k : Int)) = true := by simp; omega
          have hd2 : decide (0 < k) = true := by simp; omega
          cases hcd : decide (mailCode x ≤ mailCode y)
          · have hgood := Lib.hid (adjTo_succ HA.out hx.out (by rw [hP, hcd]; rfl))
            clear hP
            go_wp2
            (refine wp_region_ext_lit (by kernel_rfl) (by kernel_rfl) ?_; (repeat (go_big_quiet_step ((first | (go_at_call 35; exact ext_call (l9One_any _ _ _ _ _ (by omega) (by omega))) | (go_at_call 39; exact ext_call (l9Code_any _ (by assumption) _)))))); refine wpQuiet_nil ?_; rintro wq ⟨⟨_, heq⟩, rfl⟩; (try dsimp only))
            go_wp2
            go_roundw
            case rel => exact ⟨k + 1, by omega, by go_num, hgood.out, he.trans heq⟩
            case measure => simp [intOf]; omega
          · have hbad := Lib.hid (MailsOk_bad hx.out (by rw [hP, hcd]; rfl))
            clear hP
            go_wp2
            (refine wp_region_ext_lit (by kernel_rfl) (by kernel_rfl) ?_; (repeat (go_big_quiet_step ((first | (go_at_call 35; exact ext_call (l9One_any _ _ _ _ _ (by omega) (by omega))) | (go_at_call 39; exact ext_call (l9Code_any _ (by assumption) _)))))); refine wpQuiet_nil ?_; rintro wq ⟨⟨_, heq⟩, rfl⟩; (try dsimp only))
            go_wp2
            go_ret
            exact ⟨ret_bool hbad.out.symm, he.trans heq⟩
    · obtain rfl : n = k := by omega
      have hend := Lib.hid (MailsOk_end h.len HA.out)
      go_wp2
      go_ret
      exact ⟨ret_bool hend.out.symm, he⟩

end Go.Proofs.YtmgpdenofkloeaaDoor
