/- Lists of type Ban: size, copy, equality (made by wip/lists.py). -/
import Derived.Test.YtphalkeokpnpfaaDoorBan1
import Derived.Test.YtphalkeokpnpfaaDoorQuiet
namespace Go.Proofs.YtphalkeokpnpfaaDoor
open Go.RowKit
set_option linter.unusedVariables false
set_option linter.unusedSimpArgs false
attribute [local go_sem] ExtOf.cell

structure BanL (w : World) (A : Option Addr) (n : Nat) (xs : List Ban) : Prop where
  len : xs.length = n
  small : n ≤ 1048576
  wf : ∀ x ∈ xs, x.Wf
  rd : Rd w A n 4 (xs.flatMap Ban.cs)
theorem BanL.ext {w w' : World} {A : Option Addr} {n : Nat} {xs : List Ban} (h : BanL w A n xs) (he : Ext w w') : BanL w' A n xs := ⟨h.len, h.small, h.wf, h.rd.ext he⟩
theorem BanL.at_ {w : World} {A : Option Addr} {n k : Nat} {xs : List Ban} (h : BanL w A n xs) (hk : k < n) :
    ∃ b off x, A = some ⟨b, off, none⟩ ∧ b < w.heap.size ∧ Hid (xs[k]? = some x) ∧ w.cell? ⟨b, off + k * 4, none⟩ = some (.int .i64 x.A) ∧ w.cell? ⟨b, off + k * 4 + 1, none⟩ = some (.int .i64 x.X) ∧ w.cell? ⟨b, off + k * 4 + 2, none⟩ = some (.int .i64 x.B) ∧ w.cell? ⟨b, off + k * 4 + 3, none⟩ = some (.int .i64 x.Y) :=
  Ban.at_ h.rd h.len hk

set_option maxHeartbeats 400000 in
theorem szBanS_any (A : Option Addr) (n c : Nat) (xs : List Ban) (left : Int) (w : World) (h1 : 0 ≤ left) (h2 : left ≤ 1048576) (hn : xs.length = n) (hm : n ≤ maxLen) (hw : ∀ x ∈ xs, x.Wf) (hr : Rd w A n 4 (xs.flatMap Ban.cs)) :
    Calls Tryd.prog 27 #[.slice A n c, .int .i64 left] w (SzPost left n w) := by
  unfold maxLen at hm
  clear hn hw hr
  by_cases h0 : left - n < 0
  · go_enter Tryd.func27, Tryd.ntmps27
    go_wp2
    go_ret
    exact ⟨-1, rfl, by omega, by omega, by omega, Ext.refl _⟩
  · go_enter Tryd.func27, Tryd.ntmps27
    go_wp2
    go_ret
    exact ⟨left - n, rfl, by omega, by omega, by omega, Ext.refl _⟩

theorem infoBan : (Tryd.prog.info? 69).map (fun i => (i.zero, i.size, i.bytes)) = some (some (.agg #[.int .i64 0, .int .i64 0, .int .i64 0, .int .i64 0]), 4, 32) := by kernel_rfl
theorem sizeBan : (Tryd.prog.info? 69).map (·.size) = some 4 := by kernel_rfl

set_option maxHeartbeats 400000 in
theorem toBanS_any (A : Option Addr) (n c : Nat) (xs : List Ban) (w : World) (hn : xs.length = n) (hm : n ≤ 1048576) (hr : Rd w A n 4 (xs.flatMap Ban.cs)) :
    Calls Tryd.prog 32 #[.slice A n c] w (NewPost 69 4 n (xs.flatMap Ban.cs) w) := by
  obtain ⟨i0, hi, hz0, hz1, hz2⟩ := info_parts infoBan
  have H := Lib.hid hn
  clear hn
  go_enter Tryd.func32, Tryd.ntmps32
  go_wp2_with (at_make; refine wpList_make_full _ rfl _ _ _ rfl w.heap.size 69 i0 _ 4 Tryd.underlying29 hi hz0 hz1 _ _ _ _ n rfl rfl rfl rfl (by rw [hz2]; omega) (by unfold maxLen; omega) (Nat.le_refl _) ?_; intro w1 hown hg)
  have hz : (madeCells (Value.cells (.agg #[.int .i64 0, .int .i64 0, .int .i64 0, .int .i64 0])) (n * 4)).toList.length = n * 4 := made_len _ _
  generalize (madeCells (Value.cells (.agg #[.int .i64 0, .int .i64 0, .int .i64 0, .int .i64 0])) (n * 4)).toList = Z at hown hz
  have HZ := Lib.hid hz
  have he0 : Ext w w1 := (Ext.refl w).grown hg (fun k hk => by cases hk)
  clear hz hz0 hz1 hz2 hi
  go_loopw [4] (fun i wr => ∃ k : Nat, k ≤ n ∧ i = .int .i64 k ∧ wr.ownsRow w.heap.size 69 4 (.slice (some ⟨w.heap.size, 0, none⟩) n n) n (fillTo Ban.cs xs Z 4 k) ∧ Ext w wr) (fun i _ => n - (intOf i).toNat)
  case atStart => exact ⟨0, Nat.zero_le _, rfl, by rw [fill_zero]; exact hown, he0⟩
  case round =>
    obtain ⟨k, hk, rfl, ho, he⟩ := hrel
    clear hown he0 hg
    by_cases hlt : k < n
    · obtain ⟨b, off, x, rfl, hb, hx, g0, g1, g2, g3⟩ := Ban.at_ (hr.ext he) H.out hlt
      have hlb : w.heap.size < wr.heap.size := (ho.lt _ rfl).2
      clear hr
      go_wp2_with (first
        | (go_at_call 48; refine (toBan_any _ _ _ _ _).mono ?_; rintro e wa ⟨rfl, he1⟩)
        | (refine wpList_store_own rfl 69 (.tmp 21) (.tmp 20) rfl w.heap.size (k * 4) x.cs rfl rfl w.heap.size 69 4 n n (fillTo Ban.cs xs Z 4 k) (he1.own ho) (by rw [Ban.len]; omega) sizeBan (by rfl) ?_; intro wb ho2 hg2))
      go_roundw
      case rel => exact ⟨k + 1, by omega, by go_num, by rw [← fill_set Ban.len H.out HZ.out hx.out]; exact ho2, (he.trans he1).row hg2 (Nat.le_refl _)⟩
      case measure => simp [intOf]; omega
    · obtain rfl : k = n := by omega
      rw [fill_end H.out HZ.out] at ho
      go_wp2
      go_ret
      exact ⟨rfl, ho, he⟩

set_option maxHeartbeats 400000 in
theorem eqBan_same (A X B Y : Int) (w : World) :
    Calls Tryd.prog 55 #[.agg #[.int .i64 A, .int .i64 X, .int .i64 B, .int .i64 Y], .agg #[.int .i64 A, .int .i64 X, .int .i64 B, .int .i64 Y]] w fun e w' =>
      e = .returned (.bool true) ∧ Ext w w' := by
  go_enter Tryd.func55, Tryd.ntmps55
  go_wp2
  go_ret
  exact ⟨rfl, (by repeat (first | exact Ext.refl _ | assumption | refine Ext.trans ?_ (by assumption) | refine Ext.drew ?_ | refine Ext.drewN ?_ _ | refine Ext.alloc ?_ _))⟩

set_option maxHeartbeats 400000 in
theorem eqBanS_same (A A' : Option Addr) (n c c' : Nat) (xs : List Ban) (w : World) (hn : xs.length = n) (hm : n ≤ 1048576) (hr : Rd w A n 4 (xs.flatMap Ban.cs)) (hr' : Rd w A' n 4 (xs.flatMap Ban.cs)) :
    Calls Tryd.prog 37 #[.slice A n c, .slice A' n c'] w fun e w' => e = .returned (.bool true) ∧ Ext w w' := by
  have H := Lib.hid hn
  clear hn
  go_enter Tryd.func37, Tryd.ntmps37
  go_wp2
  go_loopw [5] (fun i wr => ∃ k : Nat, k ≤ n ∧ i = .int .i64 k ∧ Ext w wr) (fun i _ => n - (intOf i).toNat)
  case atStart => exact ⟨0, Nat.zero_le _, rfl, Ext.refl _⟩
  case round =>
    obtain ⟨k, hk, rfl, he⟩ := hrel
    by_cases hlt : k < n
    · obtain ⟨b, off, x, rfl, hb, hx, g0, g1, g2, g3⟩ := Ban.at_ (hr.ext he) H.out hlt
      obtain ⟨b', off', y, rfl, hb', hy, q0, q1, q2, q3⟩ := Ban.at_ (hr'.ext he) H.out hlt
      obtain rfl : x = y := by have := hx.out.symm.trans hy.out; injection this
      clear hr hr'
      go_wp2
      (refine wp_region_ext_lit (by kernel_rfl) (by kernel_rfl) ?_; (repeat (go_big_quiet_step (((go_at_call 55; exact ext_call (eqBan_same _ _ _ _ _)))))); refine wpQuiet_nil ?_; rintro wq ⟨⟨_, heq⟩, rfl⟩; (try dsimp only))
      go_wp2
      go_roundw
      case rel => exact ⟨k + 1, by omega, by go_num, he.trans heq⟩
      case measure => simp [intOf]; omega
    · obtain rfl : k = n := by omega
      go_wp2
      go_ret
      exact ⟨rfl, he⟩
end Go.Proofs.YtphalkeokpnpfaaDoor
