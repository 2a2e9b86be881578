/- slices.BinarySearchFunc at bans. -/
import Derived.Test.YtekggbmpogmlcaaAddP
namespace Go.Proofs.Ytekggbmpogmlcaa
open Go.RowKit
set_option linter.unusedVariables false
set_option linter.unusedSimpArgs false
attribute [local go_sem] ExtOf.cell

set_option maxRecDepth 100000 in
set_option maxHeartbeats 2000000 in
theorem SearchB_any (B : Option Addr) (m d : Nat) (ss : List Int) (bs : List Ban) (b : Ban) (w : World) (h : BanL w B m bs) (ht : TabOk ss bs = true) :
    Calls Try.prog 33 #[.slice B m d, .agg #[.int .i64 b.A, .int .i64 b.X, .int .i64 b.B, .int .i64 b.Y], .func (.func 34) #[] #[]] w fun e w' => e = .returned (.tuple #[.int .i64 (placeOf bs b : Nat), .bool (foundB bs b)]) ∧ Ext w w' := by
  have hm := h.small
  have HL := Lib.hid h.len
  have HS := Lib.hid (TabOk_sorted ht)
  have HU := Lib.hid (fun k hk => @IsAt.unique bs b k (placeOf bs b) hk (placeOf_at bs b))
  clear ht
  go_enter Try.func33, Try.ntmps33
  go_wp2
  go_loopw [9, 10] (fun i j wr => ∃ (p q : Nat), p ≤ q ∧ q ≤ m ∧ i = .int .i64 p ∧ j = .int .i64 q ∧ (∀ k y, k < p → bs[k]? = some y → banLess y b = true) ∧ (∀ k y, q ≤ k → bs[k]? = some y → banLess y b = false) ∧ Ext (w.alloc (.cells #[.int .i64 b.A, .int .i64 b.X, .int .i64 b.B, .int .i64 b.Y] 42)) wr) (fun i j _ => (intOf j).toNat - (intOf i).toNat)
  case atStart => exact ⟨0, m, Nat.zero_le _, Nat.le_refl _, rfl, rfl, fun k y hk => by omega, fun k y hk hy => by have := (List.getElem?_eq_some_iff.1 hy).1; have := HL.out; omega, Ext.refl _⟩
  case round =>
    obtain ⟨p, q, hpq, hqm, rfl, rfl, hlo, hhi, he⟩ := hrel
    have HLO := Lib.hid hlo
    have HHI := Lib.hid hhi
    clear hlo hhi
    have eW := ((Ext.refl w).alloc (.cells #[.int .i64 b.A, .int .i64 b.X, .int .i64 b.B, .int .i64 b.Y] 42)).trans he
    have t0 : wr.cell? ⟨w.heap.size, 0, none⟩ = some (.int .i64 b.A) := he.cell1 (new_cell _ _ _ 0 _ rfl)
    have t1 : wr.cell? ⟨w.heap.size, 1, none⟩ = some (.int .i64 b.X) := he.cell1 (new_cell _ _ _ 1 _ rfl)
    have t2 : wr.cell? ⟨w.heap.size, 2, none⟩ = some (.int .i64 b.B) := he.cell1 (new_cell _ _ _ 2 _ rfl)
    have t3 : wr.cell? ⟨w.heap.size, 3, none⟩ = some (.int .i64 b.Y) := he.cell1 (new_cell _ _ _ 3 _ rfl)
    have hz : w.heap.size < wr.heap.size := World.block_lt_of_cell? wr _ t0
    by_cases hlt : p < q
    · obtain ⟨k, hk⟩ : ∃ k, k = (p + q) / 2 := ⟨_, rfl⟩
      have hkp : p ≤ k ∧ k < q := by omega
      have hkk : ((p : Int) + (q : Int)) / 2 = (k : Int) := by omega
      have hkm : k < m := by omega
      clear hk
      obtain ⟨bb, off, y, rfl, hb, hx, g0, g1, g2, g3⟩ := (h.ext eW).at_ hkm
      have hC := fun w => compareBans_any y b w
      have hcv := Lib.hid (show banLess y b = decide (banOr y b < 0) from rfl)
      generalize banOr y b = cv at hC hcv
      have HC := Lib.hid hC
      clear hC
      cases hq : decide (cv < 0)
      · have HN := Lib.hid (show ∀ j z, k ≤ j → bs[j]? = some z → banLess z b = false from fun j z hj hz => by
          cases hlz : banLess z b with
          | false => rfl
          | true =>
            rcases Nat.eq_or_lt_of_le hj with e | hj
            · subst e
              have : z = y := by have := hz.symm.trans hx.out; injection this
              subst this
              rw [hcv.out, hq] at hlz; cases hlz
            · have h1 := HS.out (j - k - 1) k y z hx.out (by rw [show k + (j - k - 1) + 1 = j by omega]; exact hz)
              have h2 := banLess_blt.2 (blt_trans h1 (banLess_blt.1 hlz))
              rw [hcv.out, hq] at h2; cases h2)
        go_wp2
        (refine wp_region_ext_lit (by kernel_rfl) (by kernel_rfl) ?_; (repeat (go_big_quiet_step (((go_at_call 34; exact ext_call (HC.out _)))))); refine wpQuiet_nil ?_; rintro wq ⟨⟨_, heq⟩, rfl⟩; (try dsimp only))
        go_wp2
        go_roundw
        case rel => exact ⟨p, k, by omega, by omega, rfl, rfl, HLO.out, HN.out, he.trans heq⟩
        case measure => simp [intOf]; omega
      · have HN := Lib.hid (show ∀ j z, j < k + 1 → bs[j]? = some z → banLess z b = true from fun j z hj hz => by
          have hly : banLess y b = true := hcv.out.trans hq
          rcases Nat.eq_or_lt_of_le (Nat.le_of_lt_succ hj) with e | hj
          · subst e
            have : z = y := by have := hz.symm.trans hx.out; injection this
            subst this
            exact hly
          · have h1 := HS.out (k - j - 1) j z y hz (by rw [show j + (k - j - 1) + 1 = k by omega]; exact hx.out)
            exact banLess_blt.2 (blt_trans h1 (banLess_blt.1 hly)))
        go_wp2
        (refine wp_region_ext_lit (by kernel_rfl) (by kernel_rfl) ?_; (repeat (go_big_quiet_step (((go_at_call 34; exact ext_call (HC.out _)))))); refine wpQuiet_nil ?_; rintro wq ⟨⟨_, heq⟩, rfl⟩; (try dsimp only))
        go_wp2
        go_roundw
        case rel => exact ⟨k + 1, q, by omega, by omega, by go_num, rfl, HN.out, HHI.out, he.trans heq⟩
        case measure => simp [intOf]; omega
    · obtain rfl : p = q := by omega
      have hat := HU.out p ⟨by rw [HL.out]; exact hqm, HLO.out, fun y hy => HHI.out p y (Nat.le_refl _) hy⟩
      have HAT := Lib.hid hat
      clear hat
      by_cases hpm : p < m
      · obtain ⟨bb, off, y, rfl, hb, hx, g0, g1, g2, g3⟩ := (h.ext eW).at_ hpm
        have hC := fun w => compareBans_any y b w
        have hF := Lib.hid (show foundB bs b = decide (banOr y b = 0) by unfold foundB; rw [← HAT.out, hx.out])
        generalize banOr y b = cv at hC hF
        have HC := Lib.hid hC
        clear hC
        cases hq : decide (cv = 0)
        all_goals
          have hv := Lib.hid (hF.out.trans hq)
          have hq2 : (cv == 0) = _ := (show (cv == 0) = decide (cv = 0) from rfl).trans hq
          go_wp2
          (refine wp_region_ext_lit (by kernel_rfl) (by kernel_rfl) ?_; (repeat (go_big_quiet_step (((go_at_call 34; exact ext_call (HC.out _)))))); refine wpQuiet_nil ?_; rintro wq ⟨⟨_, heq⟩, rfl⟩; (try dsimp only))
          go_wp2
          go_ret2
          exact ⟨by rw [← HAT.out, hv.out]; rfl, eW.trans heq⟩
      · have hn : bs[p]? = none := List.getElem?_eq_none (by rw [HL.out]; omega)
        have hv := Lib.hid (show foundB bs b = false by unfold foundB; rw [← HAT.out, hn])
        go_wp2
        (refine wp_region_ext_lit (by kernel_rfl) (by kernel_rfl) ?_; (repeat (go_big_quiet_step (((go_at_call 34; exact ext_call (compareBans_any _ _ _)))))); refine wpQuiet_nil ?_; rintro wq ⟨⟨_, heq⟩, rfl⟩; (try dsimp only))
        go_wp2
        go_ret2
        exact ⟨by rw [← HAT.out, hv.out]; rfl, eW.trans heq⟩
end Go.Proofs.Ytekggbmpogmlcaa
