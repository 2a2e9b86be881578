/- Equal arrays of three numbers are not unequal. -/
import Derived.Test.YtkganlojknhajaaDoorArr3
import Derived.ChangeKeysEq
namespace Go.Proofs.YtkganlojknhajaaDoor
open Go.RowKit
set_option linter.unusedVariables false
set_option linter.unusedSimpArgs false
attribute [local go_sem] ExtOf.cell
theorem cells1 : Tryd.prog.cellsOf 3 = 1 := by kernel_rfl
theorem eqArr3 (x0 x1 x2 : Int) (w : World) : (Op.equalIn 10000 41 (.agg #[.int .i64 x0, .int .i64 x1, .int .i64 x2]) (.agg #[.int .i64 x0, .int .i64 x1, .int .i64 x2])).run Tryd.prog w = .ok true w := by
  obtain ⟨i0, hi, hz0, hz1, hz2⟩ := info_parts intInfo
  rw [run_equalIn_array w 9999 _ _ Tryd.underlying41 hi, cells1, show List.range 3 = [0, 1, 2] from rfl]
  simp [go_sem, Op.eqItems, run_equalIn_int _ _ _ _ _ _ _ Tryd.underlying3]
theorem neqArr3 (x0 x1 x2 : Int) (w : World) : (binOp .neq 41 (.agg #[.int .i64 x0, .int .i64 x1, .int .i64 x2]) (.agg #[.int .i64 x0, .int .i64 x1, .int .i64 x2])).run Tryd.prog w = .ok (.bool false) w := by
  rw [run_neq_struct, eqArr3]
  rfl
set_option maxHeartbeats 1000000 in
theorem vTriples_same (A A' : Option Addr) (n c c' : Nat) (l : List Int) (w : World) (hm : n ≤ 1048576) (hr : Rd w A n 3 (ints l)) (hr' : Rd w A' n 3 (ints l)) :
    Calls Tryd.prog 12 #[.slice A n c, .slice A' n c'] w fun e w' => e = .returned (.bool true) ∧ Ext w w' := by
  go_enter Tryd.func12, Tryd.ntmps12
  go_wp2
  go_loopw [5] (fun i wr => ∃ k : Nat, k ≤ n ∧ i = .int .i64 k ∧ Ext w wr) (fun i _ => n - (intOf i).toNat)
  case atStart => exact ⟨0, Nat.zero_le _, rfl, Ext.refl _⟩
  case round =>
    obtain ⟨k, hk, rfl, he⟩ := hrel
    by_cases hlt : k < n
    · obtain ⟨b, off, x0, x1, x2, rfl, hb, hx, g0, g1, g2⟩ := (hr.ext he).arr3 hlt
      obtain ⟨b', off', y0, y1, y2, rfl, hb', hy, q0, q1, q2⟩ := (hr'.ext he).arr3 hlt
      obtain ⟨h0, h1, h2⟩ := hx.out
      obtain ⟨k0, k1, k2⟩ := hy.out
      obtain rfl : x0 = y0 := by have := h0.symm.trans k0; injection this
      obtain rfl : x1 = y1 := by have := h1.symm.trans k1; injection this
      obtain rfl : x2 = y2 := by have := h2.symm.trans k2; injection this
      have hne := neqArr3 x0 x1 x2
      clear h0 h1 h2 k0 k1 k2 hx hy hr hr'
      go_wp2
      (refine wp_region_ext_lit (by kernel_rfl) (by kernel_rfl) ?_; (repeat (go_big_quiet_step ((fail)))); refine wpQuiet_nil ?_; rintro wq ⟨⟨_, heq⟩, rfl⟩; (try dsimp only))
      go_wp2
      go_roundw
      case rel => exact ⟨k + 1, by omega, by go_num, he.trans heq⟩
      case measure => simp [intOf]; omega
    · obtain rfl : k = n := by omega
      go_wp2
      go_ret
      exact ⟨rfl, he⟩
end Go.Proofs.YtkganlojknhajaaDoor
