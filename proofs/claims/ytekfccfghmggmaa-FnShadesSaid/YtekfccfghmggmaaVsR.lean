/- Equal lists: the comparisons of the statements on stamps. -/
import Derived.Test.YtekfccfghmggmaaCur
import Derived.Test.YtekfccfghmggmaaMark
import Derived.Test.YtekfccfghmggmaaFirst
namespace Go.Proofs.Ytekfccfghmggmaa
open Go.RowKit
set_option linter.unusedVariables false
set_option linter.unusedSimpArgs false
attribute [local go_sem] ExtOf.cell

set_option maxHeartbeats 400000 in
theorem rBig_any (A : Option Addr) (n c : Nat) (w : World) (hm : n ≤ maxLen) :
    Calls Try.prog 14 #[.slice A n c] w fun e w' => e = .returned (.bool (decide (65536 < (n : Int)))) ∧ w = w' := by
  unfold maxLen at hm
  go_enter Try.func14, Try.ntmps14
  go_wp2
  go_ret
  exact ⟨ret_bool (by simp), rfl⟩
set_option maxHeartbeats 400000 in
theorem rTexts_same (A A' : Option Addr) (n c c' : Nat) (l : List ByteArray) (w : World) (hm : n ≤ 1048576) (hr : Rd w A n 1 (strs l)) (hr' : Rd w A' n 1 (strs l)) :
    Calls Try.prog 20 #[.slice A n c, .slice A' n c'] w fun e w' => e = .returned (.bool true) ∧ Ext w w' := by
  go_enter Try.func20, Try.ntmps20
  go_wp2
  go_loopw [5] (fun i wr => ∃ k : Nat, k ≤ n ∧ i = .int .i64 k ∧ Ext w wr) (fun i _ => n - (intOf i).toNat)
  case atStart => exact ⟨0, Nat.zero_le _, rfl, Ext.refl _⟩
  case round =>
    obtain ⟨k, hk, rfl, he⟩ := hrel
    by_cases hlt : k < n
    · obtain ⟨b, off, x, rfl, hb, hx, g0⟩ := (hr.ext he).str hlt
      obtain ⟨b', off', y, rfl, hb', hy, q0⟩ := (hr'.ext he).str hlt
      obtain rfl : x = y := by have := hx.out.symm.trans hy.out; injection this
      clear hr hr'
      go_wp2
      (refine wp_region_ext_lit (by kernel_rfl) (by kernel_rfl) ?_; (repeat (go_big_quiet_step ((fail)))); refine wpQuiet_nil ?_; rintro wq ⟨⟨_, heq⟩, rfl⟩; (try dsimp only))
      go_wp2
      go_roundw
      case rel => exact ⟨k + 1, by omega, by go_num, he.trans heq⟩
      case measure => simp [intOf]; omega
    · obtain rfl : k = n := by omega
      go_wp2
      go_ret
      exact ⟨rfl, he⟩
def hasT (l : List ByteArray) (x : ByteArray) : Bool := l.any fun y => y.toList == x.toList
theorem hasT_mem {x : ByteArray} {l : List ByteArray} (h : x ∈ l) : hasT l x = true := by
  unfold hasT; rw [List.any_eq_true]; exact ⟨x, h, by simp⟩
theorem hasT_some {x : ByteArray} {l : List ByteArray} (h : hasT l x = true) : ∃ y ∈ l, y.toList = x.toList := by
  unfold hasT at h; rw [List.any_eq_true] at h; obtain ⟨y, hy, e⟩ := h; exact ⟨y, hy, by simpa using e⟩
set_option maxHeartbeats 400000 in
theorem rHasText_any (A : Option Addr) (n c : Nat) (l : List ByteArray) (x : ByteArray) (w : World) (hn : l.length = n) (hm : n ≤ 1048576) (hr : Rd w A n 1 (strs l)) :
    Calls Try.prog 21 #[.slice A n c, .string x] w fun e w' => e = .returned (.bool (hasT l x)) ∧ Ext w w' := by
  unfold hasT
  have HN := Lib.hid hn
  clear hn
  go_enter Try.func21, Try.ntmps21
  go_wp2
  go_loopw [5] (fun i wr => ∃ k : Nat, k ≤ n ∧ i = .int .i64 k ∧ noneTo (fun y => y.toList == x.toList) l k ∧ Ext w wr) (fun i _ => n - (intOf i).toNat)
  case atStart => exact ⟨0, Nat.zero_le _, rfl, noneTo_zero _ _, Ext.refl _⟩
  case round =>
    obtain ⟨k, hk, rfl, hnone, he⟩ := hrel
    have HO := Lib.hid hnone
    clear hnone
    by_cases hlt : k < n
    · obtain ⟨b, off, y, rfl, hb, hy, g0⟩ := (hr.ext he).str hlt
      clear hr
      cases hp : (y.toList == x.toList)
      · have hne : (y.toList == x.toList) = false := hp
        go_wp2
        go_roundw
        case rel => exact ⟨k + 1, by omega, by go_num, noneTo_succ HO.out hy.out hne, he⟩
        case measure => simp [intOf]; omega
      · have hyes : (l.any fun y => y.toList == x.toList) = true := any_hit hy.out hp
        go_wp2
        go_ret
        exact ⟨ret_bool hyes.symm, he⟩
    · obtain rfl : k = n := by omega
      have hno : (l.any fun y => y.toList == x.toList) = false := any_of_none (Nat.le_of_eq HN.out) HO.out
      go_wp2
      go_ret
      exact ⟨ret_bool hno.symm, he⟩
end Go.Proofs.Ytekfccfghmggmaa
