/- The law of FaultText. -/
import Derived.Test.YtopjomkjdmcljaaSmall
namespace Go.Proofs.Ytopjomkjdmcljaa
open Go.RowKit
set_option linter.unusedVariables false
set_option linter.unusedSimpArgs false
attribute [local go_sem] ExtOf.cell

def faultT (f : Int) : ByteArray := if f = 0 then "true".toUTF8 else if f = 1 then "zone".toUTF8 else if f = 2 then "short".toUTF8 else if f = 3 then "over".toUTF8 else if f = 4 then "route".toUTF8 else if f = 5 then "early".toUTF8 else ByteArray.empty
theorem ret_str_bool' {a b : ByteArray} {p q : Bool} (h : a = b) (h' : p = q) : Ending.returned (.tuple #[.string a, .bool p]) = .returned (.tuple #[.string b, .bool q]) := by rw [h, h']

theorem faultIx0 (w : World) : (Instr.index 68 (.agg #[.string ⟨#[116, 114, 117, 101]⟩, .string ⟨#[122, 111, 110, 101]⟩, .string ⟨#[115, 104, 111, 114, 116]⟩, .string ⟨#[111, 118, 101, 114]⟩, .string ⟨#[114, 111, 117, 116, 101]⟩, .string ⟨#[101, 97, 114, 108, 121]⟩]) (.int .i64 0)).run Try.prog w = .ok (.string ⟨#[116, 114, 117, 101]⟩) w := by kernel_rfl
theorem faultIx1 (w : World) : (Instr.index 68 (.agg #[.string ⟨#[116, 114, 117, 101]⟩, .string ⟨#[122, 111, 110, 101]⟩, .string ⟨#[115, 104, 111, 114, 116]⟩, .string ⟨#[111, 118, 101, 114]⟩, .string ⟨#[114, 111, 117, 116, 101]⟩, .string ⟨#[101, 97, 114, 108, 121]⟩]) (.int .i64 1)).run Try.prog w = .ok (.string ⟨#[122, 111, 110, 101]⟩) w := by kernel_rfl
theorem faultIx2 (w : World) : (Instr.index 68 (.agg #[.string ⟨#[116, 114, 117, 101]⟩, .string ⟨#[122, 111, 110, 101]⟩, .string ⟨#[115, 104, 111, 114, 116]⟩, .string ⟨#[111, 118, 101, 114]⟩, .string ⟨#[114, 111, 117, 116, 101]⟩, .string ⟨#[101, 97, 114, 108, 121]⟩]) (.int .i64 2)).run Try.prog w = .ok (.string ⟨#[115, 104, 111, 114, 116]⟩) w := by kernel_rfl
theorem faultIx3 (w : World) : (Instr.index 68 (.agg #[.string ⟨#[116, 114, 117, 101]⟩, .string ⟨#[122, 111, 110, 101]⟩, .string ⟨#[115, 104, 111, 114, 116]⟩, .string ⟨#[111, 118, 101, 114]⟩, .string ⟨#[114, 111, 117, 116, 101]⟩, .string ⟨#[101, 97, 114, 108, 121]⟩]) (.int .i64 3)).run Try.prog w = .ok (.string ⟨#[111, 118, 101, 114]⟩) w := by kernel_rfl
theorem faultIx4 (w : World) : (Instr.index 68 (.agg #[.string ⟨#[116, 114, 117, 101]⟩, .string ⟨#[122, 111, 110, 101]⟩, .string ⟨#[115, 104, 111, 114, 116]⟩, .string ⟨#[111, 118, 101, 114]⟩, .string ⟨#[114, 111, 117, 116, 101]⟩, .string ⟨#[101, 97, 114, 108, 121]⟩]) (.int .i64 4)).run Try.prog w = .ok (.string ⟨#[114, 111, 117, 116, 101]⟩) w := by kernel_rfl
theorem faultIx5 (w : World) : (Instr.index 68 (.agg #[.string ⟨#[116, 114, 117, 101]⟩, .string ⟨#[122, 111, 110, 101]⟩, .string ⟨#[115, 104, 111, 114, 116]⟩, .string ⟨#[111, 118, 101, 114]⟩, .string ⟨#[114, 111, 117, 116, 101]⟩, .string ⟨#[101, 97, 114, 108, 121]⟩]) (.int .i64 5)).run Try.prog w = .ok (.string ⟨#[101, 97, 114, 108, 121]⟩) w := by kernel_rfl

set_option maxRecDepth 100000 in
set_option maxHeartbeats 1000000 in
theorem FaultTextI_any (f : Int) (w : World) :
    Calls Try.prog 12 #[.int .i64 f] w fun e w' => e = .returned (.tuple #[.string (faultT f), .bool (inB f 0 5)]) ∧ Ext w w' := by
  cases h : inB f 0 5
  · have h2 := inB_no.1 h
    go_enter Try.func12, Try.ntmps12
    go_wp2_with (go_at_call 43; refine (inRange_any _ _ _ _).mono ?_; rintro e w' ⟨rfl, rfl⟩)
    go_ret2
    exact ⟨ret_str_bool' (by simp only [faultT]; rw [if_neg (by omega), if_neg (by omega), if_neg (by omega), if_neg (by omega), if_neg (by omega), if_neg (by omega)]; rfl) rfl, (by repeat (first | exact Ext.refl _ | assumption | refine Ext.trans ?_ (by assumption) | refine Ext.drew ?_ | refine Ext.drewN ?_ _ | refine Ext.alloc ?_ _))⟩
  · have h2 := inB_iff.1 h
    rcases (show f = 0 ∨ f = 1 ∨ f = 2 ∨ f = 3 ∨ f = 4 ∨ f = 5 by omega) with rfl | rfl | rfl | rfl | rfl | rfl
    all_goals
      clear h2
      have ix0 := faultIx0
      have ix1 := faultIx1
      have ix2 := faultIx2
      have ix3 := faultIx3
      have ix4 := faultIx4
      have ix5 := faultIx5
      go_enter Try.func12, Try.ntmps12
      go_wp2_with (go_at_call 43; refine (inRange_any _ _ _ _).mono ?_; rintro e w' ⟨rfl, rfl⟩)
      go_ret2
      exact ⟨ret_str_bool' rfl rfl, (by repeat (first | exact Ext.refl _ | assumption | refine Ext.trans ?_ (by assumption) | refine Ext.drew ?_ | refine Ext.drewN ?_ _ | refine Ext.alloc ?_ _))⟩

set_option maxRecDepth 100000 in
set_option maxHeartbeats 1000000 in
theorem FaultTextS_any (f : Int) (w : World) :
    Calls Try.prog 11 #[.int .i64 f] w fun e w' => e = .returned (.tuple #[.string (faultT f), .bool (inB f 0 5)]) ∧ Ext w w' := by
  cases h : inB f 0 5
  · have h2 := inB_no.1 h
    go_enter Try.func11, Try.ntmps11
    go_wp2_with (go_at_call 42; refine (l1In_any _ _ _ _).mono ?_; rintro e w' ⟨rfl, rfl⟩)
    go_ret2
    exact ⟨ret_str_bool' (by simp only [faultT]; rw [if_neg (by omega), if_neg (by omega), if_neg (by omega), if_neg (by omega), if_neg (by omega), if_neg (by omega)]; rfl) rfl, (by repeat (first | exact Ext.refl _ | assumption | refine Ext.trans ?_ (by assumption) | refine Ext.drew ?_ | refine Ext.drewN ?_ _ | refine Ext.alloc ?_ _))⟩
  · have h2 := inB_iff.1 h
    rcases (show f = 0 ∨ f = 1 ∨ f = 2 ∨ f = 3 ∨ f = 4 ∨ f = 5 by omega) with rfl | rfl | rfl | rfl | rfl | rfl
    all_goals
      clear h2
      go_enter Try.func11, Try.ntmps11
      go_wp2_with (go_at_call 42; refine (l1In_any _ _ _ _).mono ?_; rintro e w' ⟨rfl, rfl⟩)
      go_ret2
      exact ⟨ret_str_bool' rfl rfl, (by repeat (first | exact Ext.refl _ | assumption | refine Ext.trans ?_ (by assumption) | refine Ext.drew ?_ | refine Ext.drewN ?_ _ | refine Ext.alloc ?_ _))⟩

set_option maxRecDepth 100000 in
set_option maxHeartbeats 1000000 in
theorem FnExactFaultText_any (f : Int) (w : World) :
    Calls Try.prog 3 #[.int .i64 f] w fun e w' => e = .returned (.bool true) ∧ Ext w w' := by
  have hi := Lib.hid (FaultTextI_any f)
  have hs := Lib.hid (FaultTextS_any f)
  generalize faultT f = t at hi hs
  generalize inB f 0 5 = b at hi hs
  go_enter Try.func3, Try.ntmps3
  go_wp2_with (first | (go_at_call 11; refine (hs.out _).mono ?_; rintro e w1 ⟨rfl, he1⟩) | (go_at_call 12; refine (hi.out _).mono ?_; rintro e w2 ⟨rfl, he2⟩))
  go_ret
  exact ⟨rfl, (by repeat (first | exact Ext.refl _ | assumption | refine Ext.trans ?_ (by assumption) | refine Ext.drew ?_ | refine Ext.drewN ?_ _ | refine Ext.alloc ?_ _))⟩
end Go.Proofs.Ytopjomkjdmcljaa
