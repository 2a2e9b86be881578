/- Lists of shades: their size, their copy, whether they are valid, whether two are the same. -/
import Derived.Test.YtekfccfghmggmaaShade2
import Derived.Test.YtekfccfghmggmaaMem2
namespace Go.Proofs.Ytekfccfghmggmaa
open Go.RowKit
set_option linter.unusedVariables false
set_option linter.unusedSimpArgs false

set_option maxHeartbeats 400000 in
theorem szShadeS_any (A : Option Addr) (n c : Nat) (xs : List Shade) (left : Int) (w : World) (h1 : 0 ≤ left) (h2 : left ≤ 1048576) (hn : xs.length = n) (hm : n ≤ maxLen) (hw : ∀ x ∈ xs, x.Wf) (hr : Rd w A n 5 (xs.flatMap Shade.cs)) :
    Calls Try.prog 5 #[.slice A n c, .int .i64 left] w (SzPost left n w) := by
  unfold maxLen at hm
  by_cases h0 : left - n < 0
  · go_enter Try.func5, Try.ntmps5
    go_wp2
    go_ret
    exact ⟨-1, rfl, by omega, by omega, by omega, Ext.refl _⟩
  · go_enter Try.func5, Try.ntmps5
    go_wp2
    go_loopw [1, 5] (fun l i wr => ∃ (k : Nat) (r : Int), k ≤ n ∧ i = .int .i64 k ∧ l = .int .i64 r ∧ 0 ≤ r ∧ r ≤ left ∧ Ext w wr) (fun _ i _ => n - (intOf i).toNat)
    case atStart => exact ⟨0, left - n, Nat.zero_le _, rfl, rfl, by omega, by omega, Ext.refl _⟩
    case round =>
      obtain ⟨k, r, hk, rfl, rfl, hp, hq, he⟩ := hrel
      by_cases hlt : k < n
      · obtain ⟨b, off, x, rfl, hb, hx, g0, g1, g2, g3, g4⟩ := Shade.at_ (hr.ext he) hn hlt
        have hxn : x.Name.size ≤ maxLen := (hw x (List.mem_of_getElem? hx.out)).1
        have H := Lib.hid hn
        have HW := Lib.hid hw
        clear hn hw hr
        by_cases h3 : r - x.Name.size < 0
        · go_wp2_with (go_at_call 31; refine (szShade_any _ _ _ _ _ _ (by assumption) (by omega) (by omega) _).mono ?_; rintro e wa ⟨rfl, he1⟩)
          go_ret
          exact ⟨-1, rfl, by omega, by omega, by omega, he.trans he1⟩
        · go_wp2_with (go_at_call 31; refine (szShade_any _ _ _ _ _ _ (by assumption) (by omega) (by omega) _).mono ?_; rintro e wa ⟨rfl, he1⟩)
          go_roundw
          case rel => exact ⟨k + 1, r - x.Name.size, by omega, by go_num, by rw [if_neg (by omega)], by omega, by omega, he.trans he1⟩
          case measure => simp [intOf]; omega
      · obtain rfl : k = n := by omega
        go_wp2
        go_ret
        exact ⟨r, rfl, by omega, by omega, by omega, he⟩
theorem shadeInfo : (Try.prog.info? 46).map (fun i => (i.zero, i.size, i.bytes)) = some (some (.agg #[.string ByteArray.empty, .int .i64 0, .int .i64 0, .int .i64 0, .int .i64 0]), 5, 48) := by kernel_rfl
theorem shadeSize : (Try.prog.info? 46).map (·.size) = some 5 := by kernel_rfl

set_option maxHeartbeats 400000 in
theorem toShadeS_any (A : Option Addr) (n c : Nat) (xs : List Shade) (w : World) (hn : xs.length = n) (hm : n ≤ 1048576) (hr : Rd w A n 5 (xs.flatMap Shade.cs)) :
    Calls Try.prog 7 #[.slice A n c] w (NewPost 46 5 n (xs.flatMap Shade.cs) w) := by
  obtain ⟨i0, hi, hz0, hz1, hz2⟩ := info_parts shadeInfo
  have H := Lib.hid hn
  clear hn
  go_enter Try.func7, Try.ntmps7
  go_wp2_with (at_make; refine wpList_make_full _ rfl _ _ _ rfl w.heap.size 46 i0 _ 5 Try.underlying27 hi hz0 hz1 _ _ _ _ n rfl rfl rfl rfl (by rw [hz2]; omega) (by unfold maxLen; omega) (Nat.le_refl _) ?_; intro w1 hown hg)
  have hz : (madeCells (Value.agg #[.string ByteArray.empty, .int .i64 0, .int .i64 0, .int .i64 0, .int .i64 0]).cells (n * 5)).toList.length = n * 5 := made_len _ _
  generalize (madeCells (Value.agg #[.string ByteArray.empty, .int .i64 0, .int .i64 0, .int .i64 0, .int .i64 0]).cells (n * 5)).toList = Z at hown hz
  have HZ := Lib.hid hz
  have he0 : Ext w w1 := (Ext.refl w).grown hg (fun k hk => by cases hk)
  clear hz hz0 hz1 hz2 hi
  go_loopw [4] (fun i wr => ∃ k : Nat, k ≤ n ∧ i = .int .i64 k ∧ wr.ownsRow w.heap.size 46 5 (.slice (some ⟨w.heap.size, 0, none⟩) n n) n (fillTo Shade.cs xs Z 5 k) ∧ Ext w wr) (fun i _ => n - (intOf i).toNat)
  case atStart => exact ⟨0, Nat.zero_le _, rfl, by rw [fill_zero]; exact hown, he0⟩
  case round =>
    obtain ⟨k, hk, rfl, ho, he⟩ := hrel
    clear hown he0 hg
    by_cases hlt : k < n
    · obtain ⟨b, off, x, rfl, hb, hx, g0, g1, g2, g3, g4⟩ := Shade.at_ (hr.ext he) H.out hlt
      have hlb : w.heap.size < wr.heap.size := (ho.lt _ rfl).2
      clear hr
      go_wp2_with (first
        | (go_at_call 34; refine (toShade_any _ _ _ _ _ _).mono ?_; rintro e wa ⟨rfl, he1⟩)
        | (refine wpList_store_own rfl 46 (.tmp 21) (.tmp 20) rfl w.heap.size (k * 5) x.cs rfl rfl w.heap.size 46 5 n n (fillTo Shade.cs xs Z 5 k) (he1.own ho) (by rw [Shade.len]; omega) shadeSize (by rfl) ?_; intro wb ho2 hg2))
      go_roundw
      case rel => exact ⟨k + 1, by omega, by go_num, by rw [← fill_set Shade.len H.out HZ.out hx.out]; exact ho2, (he.trans he1).row hg2 (Nat.le_refl _)⟩
      case measure => simp [intOf]; omega
    · obtain rfl : k = n := by omega
      rw [fill_end H.out HZ.out] at ho
      go_wp2
      go_ret
      exact ⟨rfl, ho, he⟩
end Go.Proofs.Ytekfccfghmggmaa
