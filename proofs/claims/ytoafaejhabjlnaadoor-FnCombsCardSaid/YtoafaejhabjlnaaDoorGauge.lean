/- The law of GaugeText. -/
import Derived.Test.YtoafaejhabjlnaaDoorGaugeP
import Derived.Test.YtoafaejhabjlnaaDoorSmall
namespace Go.Proofs.YtoafaejhabjlnaaDoor
open Go.RowKit
set_option linter.unusedVariables false
set_option linter.unusedSimpArgs false
attribute [local go_sem] ExtOf.cell

theorem ret_str_bool' {a b : ByteArray} {p q : Bool} (h : a = b) (h' : p = q) : Ending.returned (.tuple #[.string a, .bool p]) = .returned (.tuple #[.string b, .bool q]) := by rw [h, h']
def gOk (g : Int) : Bool := inB g 500 2000
def ggT (g : Int) : ByteArray := if gOk g then gaugeT g else ⟨#[]⟩
theorem isGauge_any (g : Int) (w : World) : Calls Tryd.prog 36 #[.int .i64 g] w fun e w' => e = .returned (.bool (gOk g)) ∧ w = w' := by
  go_enter Tryd.func36, Tryd.ntmps36
  go_wp2_with (go_at_call 47; refine (inRange_any _ _ _ _).mono ?_; rintro e w' ⟨rfl, rfl⟩)
  go_ret
  exact ⟨rfl, rfl⟩
theorem l5Gauge_any (g : Int) (w : World) : Calls Tryd.prog 38 #[.int .i64 g] w fun e w' => e = .returned (.bool (gOk g)) ∧ w = w' := by
  go_enter Tryd.func38, Tryd.ntmps38
  go_wp2_with (go_at_call 48; refine (l1In_any _ _ _ _).mono ?_; rintro e w' ⟨rfl, rfl⟩)
  go_ret
  exact ⟨rfl, rfl⟩
set_option maxRecDepth 100000 in
set_option maxHeartbeats 1000000 in
theorem hundredths_any (g : Int) (w : World) (h0 : 0 ≤ g) (h1 : g ≤ 10000) (ht : TabOkW w) :
    Calls Tryd.prog 52 #[.int .i64 g] w fun e w' => e = .returned (.string (hundT g)) ∧ Ext w w' := by
  have HT := Lib.hid ht
  have z1 : (numT (g / 100)).size ≤ 5 := numT_five (by omega) (by omega)
  have z2 : (numT (g % 100)).size ≤ 5 := numT_five (by omega) (by omega)
  by_cases hc : g % 100 < 10
  · have hh := Lib.hid (show hundT g = (numT (g / 100) ++ (⟨#[46, 48]⟩ : ByteArray)) ++ numT (g % 100) by unfold hundT; rw [if_pos hc])
    have d : decide (g % 100 < 10) = true := by simpa using hc
    go_enter Tryd.func52, Tryd.ntmps52
    go_wp2_with fail
    refine (Itoa_any _ _ (by omega) (by omega) HT.out).mono ?_
    rintro e w1 ⟨rfl, he1⟩
    go_wp2_with fail
    refine (Itoa_any _ _ (by omega) (by omega) (HT.out.ext he1)).mono ?_
    rintro e w2 ⟨rfl, he2⟩
    go_wp2_with fail
    go_ret
    exact ⟨ret_str hh.out.symm, he1.trans he2⟩
  · have hh := Lib.hid (show hundT g = (numT (g / 100) ++ (⟨#[46]⟩ : ByteArray)) ++ numT (g % 100) by unfold hundT; rw [if_neg hc])
    have d : decide (g % 100 < 10) = false := by simpa using hc
    go_enter Tryd.func52, Tryd.ntmps52
    go_wp2_with fail
    refine (Itoa_any _ _ (by omega) (by omega) HT.out).mono ?_
    rintro e w1 ⟨rfl, he1⟩
    go_wp2_with fail
    refine (Itoa_any _ _ (by omega) (by omega) (HT.out.ext he1)).mono ?_
    rintro e w2 ⟨rfl, he2⟩
    go_wp2_with fail
    go_ret
    exact ⟨ret_str hh.out.symm, he1.trans he2⟩
theorem trimR_any (g : Int) (w : World) (h0 : 0 ≤ g) (h1 : g ≤ 10000) :
    Calls Tryd.prog 51 #[.string (hundT g), .string ⟨#[48]⟩] w fun e w' => e = .returned (.string ⟨(Lib.trimRightB (hundT g).data.toList 48).toArray⟩) ∧ w' = w :=
  Tryd.strings_TrimRight_one (hundT g) 48 (by decide) w (Nat.le_trans (hundT_size h0 h1) (by decide))
theorem trimB_size (l : List UInt8) (c : UInt8) : (⟨(Lib.trimRightB l c).toArray⟩ : ByteArray).size ≤ l.length := by
  have : (Lib.trimRightB l c).length ≤ l.length := by
    unfold Lib.trimRightB
    rw [List.length_reverse]
    exact Nat.le_trans (List.dropWhile_sublist _).length_le (by simp)
  simpa [ByteArray.size] using this
theorem trimS_any (g : Int) (w : World) (h0 : 0 ≤ g) (h1 : g ≤ 10000) :
    Calls Tryd.prog 50 #[.string ⟨(Lib.trimRightB (hundT g).data.toList 48).toArray⟩, .string ⟨#[46]⟩] w fun e w' => e = .returned (.string (gaugeT g)) ∧ w' = w := by
  refine (Tryd.strings_TrimSuffix _ ⟨#[46]⟩ w ?_).mono ?_
  · have h2 := hundT_size h0 h1
    have h3 := trimB_size (hundT g).data.toList 48
    rw [Array.length_toList] at h3
    have h4 : (hundT g).data.size = (hundT g).size := rfl
    omega
  · rintro e w' ⟨rfl, rfl⟩
    exact ⟨ret_str (by rw [← gauge_trim h0]), rfl⟩
set_option maxRecDepth 100000 in
set_option maxHeartbeats 1000000 in
theorem gaugeText_any (g : Int) (w : World) (h0 : 0 ≤ g) (h1 : g ≤ 10000) (ht : TabOkW w) :
    Calls Tryd.prog 37 #[.int .i64 g] w fun e w' => e = .returned (.string (gaugeT g)) ∧ Ext w w' := by
  have HT := Lib.hid ht
  go_enter Tryd.func37, Tryd.ntmps37
  go_wp2_with (first
    | (go_at_call 52; refine (hundredths_any g _ h0 h1 HT.out).mono ?_; rintro e w1 ⟨rfl, he1⟩)
    | (go_at_call 51; refine (trimR_any g _ h0 h1).mono ?_; rintro e w2 ⟨rfl, hw2⟩; subst hw2)
    | (go_at_call 50; refine (trimS_any g _ h0 h1).mono ?_; rintro e w3 ⟨rfl, hw3⟩; subst hw3))
  go_ret
  exact ⟨rfl, he1⟩
set_option maxRecDepth 100000 in
set_option maxHeartbeats 1000000 in
theorem l5Text_any (g : Int) (w : World) (h0 : 0 ≤ g) (h1 : g ≤ 10000) :
    Calls Tryd.prog 39 #[.int .i64 g] w fun e w' => e = .returned (.string (gaugeT g)) ∧ Ext w w' := by
  have z1 : (numT (g / 100)).size ≤ 5 := numT_five (by omega) (by omega)
  have z2 : (numT (g / 10 % 10)).size ≤ 5 := numT_five (by omega) (by omega)
  have z3 : (numT (g % 10)).size ≤ 5 := numT_five (by omega) (by omega)
  by_cases hc : g % 100 = 0
  · have hh := Lib.hid (show gaugeT g = numT (g / 100) by unfold gaugeT; rw [if_pos hc])
    have d1 : decide (0 < g % 100) = false := by simp; omega
    have d2 : decide (0 < g % 10) = false := by simp; omega
    go_enter Tryd.func39, Tryd.ntmps39
    go_wp2_with (go_at_call 44; refine (l1Num_any _ _ _ (by omega) (Int.le_of_eq (Int.toNat_of_nonneg (by omega)).symm) (by omega)).mono ?_; rintro e w1 ⟨rfl, he1⟩)
    go_ret
    exact ⟨ret_str hh.out.symm, he1⟩
  by_cases hb : g % 10 = 0
  · have hh := Lib.hid (show gaugeT g = (numT (g / 100) ++ (⟨#[46]⟩ : ByteArray)) ++ numT (g / 10 % 10) by unfold gaugeT; rw [if_neg hc, if_pos hb])
    have d1 : decide (0 < g % 100) = true := by simp; omega
    have d2 : decide (0 < g % 10) = false := by simp; omega
    clear hc
    go_enter Tryd.func39, Tryd.ntmps39
    go_wp2_with fail
    refine (l1Num_any _ _ _ (by omega) (Int.le_of_eq (Int.toNat_of_nonneg (by omega)).symm) (by omega)).mono ?_
    rintro e w1 ⟨rfl, he1⟩
    go_wp2_with fail
    refine (l1Num_any _ _ _ (by omega) (Int.le_of_eq (Int.toNat_of_nonneg (by omega)).symm) (by omega)).mono ?_
    rintro e w2 ⟨rfl, he2⟩
    go_wp2_with fail
    go_ret
    exact ⟨ret_str hh.out.symm, he1.trans he2⟩
  · have hh := Lib.hid (show gaugeT g = ((numT (g / 100) ++ (⟨#[46]⟩ : ByteArray)) ++ numT (g / 10 % 10)) ++ numT (g % 10) by unfold gaugeT; rw [if_neg hc, if_neg hb])
    have d1 : decide (0 < g % 100) = true := by simp; omega
    have d2 : decide (0 < g % 10) = true := by simp; omega
    clear hc hb
    go_enter Tryd.func39, Tryd.ntmps39
    go_wp2_with fail
    refine (l1Num_any _ _ _ (by omega) (Int.le_of_eq (Int.toNat_of_nonneg (by omega)).symm) (by omega)).mono ?_
    rintro e w1 ⟨rfl, he1⟩
    go_wp2_with fail
    refine (l1Num_any _ _ _ (by omega) (Int.le_of_eq (Int.toNat_of_nonneg (by omega)).symm) (by omega)).mono ?_
    rintro e w2 ⟨rfl, he2⟩
    go_wp2_with fail
    refine (l1Num_any _ _ _ (by omega) (Int.le_of_eq (Int.toNat_of_nonneg (by omega)).symm) (by omega)).mono ?_
    rintro e w3 ⟨rfl, he3⟩
    go_wp2_with fail
    go_ret
    exact ⟨ret_str hh.out.symm, he1.trans (he2.trans he3)⟩
set_option maxRecDepth 100000 in
set_option maxHeartbeats 1000000 in
theorem GaugeTextI_any (g : Int) (w : World) (ht : TabOkW w) :
    Calls Tryd.prog 16 #[.int .i64 g] w fun e w' => e = .returned (.tuple #[.string (ggT g), .bool (gOk g)]) ∧ Ext w w' := by
  have HT := Lib.hid ht
  cases h : gOk g
  · go_enter Tryd.func16, Tryd.ntmps16
    go_wp2_with (go_at_call 36; refine (isGauge_any _ _).mono ?_; rintro e w' ⟨rfl, rfl⟩)
    go_ret2
    exact ⟨ret_str_bool' (by rw [ggT, h]; rfl) rfl, Ext.refl _⟩
  · have hb := inB_iff.1 h
    go_enter Tryd.func16, Tryd.ntmps16
    go_wp2_with (first | (go_at_call 36; refine (isGauge_any _ _).mono ?_; rintro e w' ⟨rfl, rfl⟩) | (go_at_call 37; refine (gaugeText_any g _ (by omega) (by omega) HT.out).mono ?_; rintro e w1 ⟨rfl, he1⟩))
    go_ret2
    exact ⟨ret_str_bool' (by rw [ggT, h]; rfl) rfl, he1⟩
set_option maxRecDepth 100000 in
set_option maxHeartbeats 1000000 in
theorem GaugeTextS_any (g : Int) (w : World) :
    Calls Tryd.prog 17 #[.int .i64 g] w fun e w' => e = .returned (.tuple #[.string (ggT g), .bool (gOk g)]) ∧ Ext w w' := by
  cases h : gOk g
  · go_enter Tryd.func17, Tryd.ntmps17
    go_wp2_with (go_at_call 38; refine (l5Gauge_any _ _).mono ?_; rintro e w' ⟨rfl, rfl⟩)
    go_ret2
    exact ⟨ret_str_bool' (by rw [ggT, h]; rfl) rfl, Ext.refl _⟩
  · have hb := inB_iff.1 h
    go_enter Tryd.func17, Tryd.ntmps17
    go_wp2_with (first | (go_at_call 38; refine (l5Gauge_any _ _).mono ?_; rintro e w' ⟨rfl, rfl⟩) | (go_at_call 39; refine (l5Text_any g _ (by omega) (by omega)).mono ?_; rintro e w1 ⟨rfl, he1⟩))
    go_ret2
    exact ⟨ret_str_bool' (by rw [ggT, h]; rfl) rfl, he1⟩
end Go.Proofs.YtoafaejhabjlnaaDoor
