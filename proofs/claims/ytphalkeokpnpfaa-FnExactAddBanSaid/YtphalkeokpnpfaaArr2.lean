/- Lists of arrays of 2 numbers: equality, marks (made by wip/arrs.py). -/
import Derived.Test.YtphalkeokpnpfaaIntS
import Derived.Test.YtphalkeokpnpfaaIdx
namespace Go.Proofs.Ytphalkeokpnpfaa
open Go.RowKit
set_option linter.unusedVariables false
set_option linter.unusedSimpArgs false
attribute [local go_sem] ExtOf.cell

theorem Rd.arr2 {w : World} {A : Option Addr} {n k : Nat} {l : List Int} (h : Rd w A n 2 (ints l)) (hk : k < n) :
    ∃ b off x0 x1, A = some ⟨b, off, none⟩ ∧ b < w.heap.size ∧ Hid (l[k * 2]? = some x0 ∧ l[k * 2 + 1]? = some x1) ∧ w.cell? ⟨b, off + k * 2, none⟩ = some (.int .i64 x0) ∧ w.cell? ⟨b, off + k * 2 + 1, none⟩ = some (.int .i64 x1) := by
  obtain ⟨b, off, e, hb, hc⟩ := h.2 (by omega)
  have hl : l.length = n * 2 := by have := h.1; rw [ints_length] at this; exact this
  have l0 : k * 2 + 0 < l.length := by omega
  have l1 : k * 2 + 1 < l.length := by omega
  have hcell : ∀ {i : Nat} (hi : i < l.length), w.cell? ⟨b, off + i, none⟩ = some (.int .i64 l[i]) := fun hi => hc _ _ (ints_get (List.getElem?_eq_getElem hi))
  exact ⟨b, off, l[k * 2 + 0], l[k * 2 + 1], e, hb, ⟨List.getElem?_eq_getElem l0, List.getElem?_eq_getElem l1⟩, hcell l0, hcell l1⟩
set_option maxHeartbeats 1000000 in
theorem eqIntA2_same (x0 x1 : Int) (w : World) :
    Calls Try.prog 73 #[.agg #[.int .i64 x0, .int .i64 x1], .agg #[.int .i64 x0, .int .i64 x1]] w fun e w' => e = .returned (.bool true) ∧ Ext w w' := by
  go_enter Try.func73, Try.ntmps73
  go_wp2
  go_loopw [5] (fun i wr => ∃ k : Nat, k ≤ 2 ∧ i = .int .i64 k ∧ Ext ((w.alloc (.cells #[.int .i64 x0, .int .i64 x1] 85)).alloc (.cells #[.int .i64 x0, .int .i64 x1] 85)) wr) (fun i _ => 2 - (intOf i).toNat)
  case atStart => exact ⟨0, Nat.zero_le _, rfl, Ext.refl _⟩
  case round =>
    obtain ⟨k, hk, rfl, he⟩ := hrel
    have a0 : wr.cell? ⟨w.heap.size, 0, none⟩ = some (.int .i64 x0) := he.cell1 ((new_cell w #[.int .i64 x0, .int .i64 x1] 85 0 _ rfl |> ((Ext.refl _).alloc _).cell1))
    have b0 : wr.cell? ⟨w.heap.size + 1, 0, none⟩ = some (.int .i64 x0) := he.cell1 (by simp [go_sem, World.cell?_alloc_past])
    have a1 : wr.cell? ⟨w.heap.size, 1, none⟩ = some (.int .i64 x1) := he.cell1 ((new_cell w #[.int .i64 x0, .int .i64 x1] 85 1 _ rfl |> ((Ext.refl _).alloc _).cell1))
    have b1 : wr.cell? ⟨w.heap.size + 1, 1, none⟩ = some (.int .i64 x1) := he.cell1 (by simp [go_sem, World.cell?_alloc_past])
    have z1 : w.heap.size + 1 < wr.heap.size := World.block_lt_of_cell? wr _ b0
    have z0 : w.heap.size < wr.heap.size := World.block_lt_of_cell? wr _ a0
    by_cases hlt : k < 2
    · obtain ⟨x, ax, bx⟩ : ∃ x, wr.cell? ⟨w.heap.size, k, none⟩ = some (.int .i64 x) ∧ wr.cell? ⟨w.heap.size + 1, k, none⟩ = some (.int .i64 x) := by
        obtain rfl | rfl : k = 0 ∨ k = 1 := by omega
        · exact ⟨x0, a0, b0⟩
        · exact ⟨x1, a1, b1⟩
      clear a0 b0 a1 b1
      go_wp2
      (refine wp_region_ext_lit (by kernel_rfl) (by kernel_rfl) ?_; (repeat (go_big_quiet_step ((fail)))); refine wpQuiet_nil ?_; rintro wq ⟨⟨_, heq⟩, rfl⟩; (try dsimp only))
      go_wp2
      go_roundw
      case rel => exact ⟨k + 1, by omega, by go_num, he.trans heq⟩
      case measure => simp [intOf]; omega
    · obtain rfl : k = 2 := by omega
      go_wp2
      go_ret
      exact ⟨rfl, (((Ext.refl w).alloc _).alloc _).trans he⟩
set_option maxHeartbeats 400000 in
theorem eqIntA2S_same (A A' : Option Addr) (n c c' : Nat) (l : List Int) (w : World) (hm : n ≤ 1048576) (hr : Rd w A n 2 (ints l)) (hr' : Rd w A' n 2 (ints l)) :
    Calls Try.prog 37 #[.slice A n c, .slice A' n c'] w fun e w' => e = .returned (.bool true) ∧ Ext w w' := by
  go_enter Try.func37, Try.ntmps37
  go_wp2
  go_loopw [5] (fun i wr => ∃ k : Nat, k ≤ n ∧ i = .int .i64 k ∧ Ext w wr) (fun i _ => n - (intOf i).toNat)
  case atStart => exact ⟨0, Nat.zero_le _, rfl, Ext.refl _⟩
  case round =>
    obtain ⟨k, hk, rfl, he⟩ := hrel
    by_cases hlt : k < n
    · obtain ⟨b, off, x0, x1, rfl, hb, hx, g0, g1⟩ := (hr.ext he).arr2 hlt
      obtain ⟨b', off', y0, y1, rfl, hb', hy, q0, q1⟩ := (hr'.ext he).arr2 hlt
      obtain ⟨h0, h1⟩ := hx.out
      obtain ⟨k0, k1⟩ := hy.out
      obtain rfl : x0 = y0 := by have := h0.symm.trans k0; injection this
      obtain rfl : x1 = y1 := by have := h1.symm.trans k1; injection this
      clear hr hr' hx hy h0 h1 k0 k1
      go_wp2
      (refine wp_region_ext_lit (by kernel_rfl) (by kernel_rfl) ?_; (repeat (go_big_quiet_step (((go_at_call 73; exact ext_call (eqIntA2_same _ _ _)))))); refine wpQuiet_nil ?_; rintro wq ⟨⟨_, heq⟩, rfl⟩; (try dsimp only))
      go_wp2
      go_roundw
      case rel => exact ⟨k + 1, by omega, by go_num, he.trans heq⟩
      case measure => simp [intOf]; omega
    · obtain rfl : k = n := by omega
      go_wp2
      go_ret
      exact ⟨rfl, he⟩
set_option maxHeartbeats 1000000 in
theorem markIntA2S_any (A : Option Addr) (n c base : Nat) (l : List Int) (k : Int) (w : World) (h1 : 1 ≤ k) (h2 : k + 2 * n ≤ 100000000) (ho : w.ownsRow base 85 2 (.slice A n c) n (ints l)) :
    Calls Try.prog 38 #[.slice A n c, .int .i64 k] w fun e w' => e = .returned (.int .i64 (k + 2 * n)) ∧ w'.ownsRow base 85 2 (.slice A n c) n (ints (marksI k (n * 2))) ∧ w.grownBy w' (Value.ownBlock (.slice A n c)) := by
  have HL := Lib.hid (show (ints l).length = (n * 2) * 1 by rw [Nat.mul_one]; exact ho.1)
  have HF := Lib.hid (show ∀ v : Int, [Value.int .i64 v].length = 1 from fun _ => rfl)
  have HS := Lib.hid (show ∀ l : List Int, ints l = l.flatMap (fun v => [Value.int .i64 v]) from fun l => by
    induction l with
    | nil => rfl
    | cons a l ih => simp only [ints, List.map_cons, List.flatMap_cons] at *; rw [ih]; rfl)
  generalize ints l = Z at *
  go_enter Try.func38, Try.ntmps38
  go_wp2
  go_loopw [1, 5] (fun q i wr => ∃ (j : Nat) (qv : Int), j ≤ n ∧ i = .int .i64 j ∧ q = .int .i64 qv ∧ qv = k + 2 * j ∧ wr.ownsRow base 85 2 (.slice A n c) n (fillTo (fun v => [Value.int .i64 v]) (marksI k (n * 2)) Z 1 (j * 2)) ∧ w.grownBy wr (Value.ownBlock (.slice A n c))) (fun _ i _ => n - (intOf i).toNat)
  case atStart => exact ⟨0, k, Nat.zero_le _, rfl, rfl, by simp, by rw [Nat.zero_mul, fill_zero]; exact ho, World.grownBy.refl _ _⟩
  case round =>
    obtain ⟨j, qv, hj, rfl, rfl, hqv, hor, hgr⟩ := hrel
    have HQV := Lib.hid hqv
    clear ho
    by_cases hlt : j < n
    · obtain ⟨g, cap, hv, hbg, hgl⟩ := hor.form (by omega)
      have hA : A = some ⟨g, 0, none⟩ := by injection hv
      clear hv hgl hqv
      subst hA
      go_wp2
      go_loopw [1, 6] (fun q i wr => ∃ (t : Nat) (qw : Int), t ≤ 2 ∧ i = .int .i64 t ∧ q = .int .i64 qw ∧ qw = qv + t ∧ wr.ownsRow base 85 2 (.slice (some ⟨g, 0, none⟩) n c) n (fillTo (fun v => [Value.int .i64 v]) (marksI k (n * 2)) Z 1 (j * 2 + t)) ∧ w.grownBy wr (some g)) (fun _ i _ => 2 - (intOf i).toNat)
      case atStart => exact ⟨0, qv, Nat.zero_le _, rfl, rfl, by simp, hor, hgr⟩
      case round =>
        obtain ⟨t, qw, ht, rfl, rfl, hqw, hox, hgx⟩ := hrel
        have HQW := Lib.hid hqw
        have hgq : 1 ≤ qw ∧ qw ≤ 100000000 := by have := HQV.out; omega
        clear hor hgr hqw
        by_cases hlu : t < 2
        · have hf1 := hox.frozenAt (j * 2 + t)
          obtain ⟨u1, hu1⟩ := own_cell (j := j * 2 + t) hox (by omega)
          have hgl : g < wr.heap.size := (hox.lt _ rfl).2
          have HOX := Lib.hid hox
          clear hox
          go_wp2
          go_roundw
          case rel =>
            have ho2 := (HOX.out.stored (j * 2 + t) (.int .i64 qw)).1
            have hget := marksI_get k (show j * 2 + t < n * 2 by omega)
            rw [show k + ((j * 2 + t : Nat) : Int) = qw by have := HQV.out; have := HQW.out; omega] at hget
            have hfs := fill_set (size := 1) (zs := Z) HF.out (marksI_length k (n * 2)) HL.out hget
            simp only [setL, Nat.mul_one] at hfs
            rw [hfs] at ho2
            exact ⟨t + 1, qw + 1, by omega, by go_num, by go_num, by have := HQW.out; omega, ho2, grown_set hgx _ _⟩
          case measure => simp [intOf]; omega
        · obtain rfl : t = 2 := by omega
          go_wp2
          go_roundw
          case rel => exact ⟨j + 1, qw, by omega, by go_num, rfl, by have := HQV.out; have := HQW.out; omega, by (have e : (j + 1) * 2 = j * 2 + 2 := by omega); rw [e]; exact hox, hgx⟩
          case measure => simp [intOf]; omega
    · obtain rfl : j = n := by omega
      rw [fill_end (marksI_length k (j * 2)) HL.out, ← HS.out] at hor
      go_wp2
      go_ret
      exact ⟨ret_int HQV.out, hor, hgr⟩
set_option maxHeartbeats 1000000 in
theorem heldIntA2S_any (A : Option Addr) (n c : Nat) (k : Int) (w : World) (h1 : 1 ≤ k) (h2 : k + 2 * n ≤ 100000000) (hr : Rd w A n 2 (ints (marksI k (n * 2)))) :
    Calls Try.prog 39 #[.slice A n c, .int .i64 k] w fun e w' => e = .returned (.int .i64 (k + 2 * n)) ∧ Ext w w' := by
  go_enter Try.func39, Try.ntmps39
  go_wp2
  go_loopw [1, 5] (fun q i wr => ∃ (j : Nat) (qv : Int), j ≤ n ∧ i = .int .i64 j ∧ q = .int .i64 qv ∧ qv = k + 2 * j ∧ Ext w wr) (fun _ i _ => n - (intOf i).toNat)
  case atStart => exact ⟨0, k, Nat.zero_le _, rfl, rfl, by simp, Ext.refl _⟩
  case round =>
    obtain ⟨j, qv, hj, rfl, rfl, hqv, he⟩ := hrel
    have HQV := Lib.hid hqv
    by_cases hlt : j < n
    · obtain ⟨b, off, eA, hb, hc⟩ := hr.2 (by omega)
      subst eA
      have HC := Lib.hid hc
      clear hc hr hqv
      go_wp2
      go_loopw [1, 6] (fun q i wr => ∃ (t : Nat) (qw : Int), t ≤ 2 ∧ i = .int .i64 t ∧ q = .int .i64 qw ∧ qw = qv + t ∧ Ext w wr) (fun _ i _ => 2 - (intOf i).toNat)
      case atStart => exact ⟨0, qv, Nat.zero_le _, rfl, rfl, by simp, he⟩
      case round =>
        obtain ⟨t, qw, ht, rfl, rfl, hqw, hex⟩ := hrel
        have HQW := Lib.hid hqw
        have hgq : 1 ≤ qw ∧ qw ≤ 100000000 := by have := HQV.out; omega
        clear hqw
        by_cases hlu : t < 2
        · have hget := marksI_get k (show j * 2 + t < n * 2 by omega)
          rw [show k + ((j * 2 + t : Nat) : Int) = qw by have := HQV.out; have := HQW.out; omega] at hget
          have c0 := hex.cell1 (HC.out _ _ (ints_get hget))
          rw [← Nat.add_assoc] at c0
          have hbl : b < wr.heap.size := World.block_lt_of_cell? wr _ c0
          clear hget
          go_wp2
          go_roundw
          case rel => exact ⟨t + 1, qw + 1, by omega, by go_num, by go_num, by have := HQW.out; omega, hex⟩
          case measure => simp [intOf]; omega
        · obtain rfl : t = 2 := by omega
          go_wp2
          go_roundw
          case rel => exact ⟨j + 1, qw, by omega, by go_num, rfl, by have := HQV.out; have := HQW.out; omega, hex⟩
          case measure => simp [intOf]; omega
    · obtain rfl : j = n := by omega
      go_wp2
      go_ret
      exact ⟨ret_int HQV.out, he⟩
end Go.Proofs.Ytphalkeokpnpfaa
