/- The reference's best shade. -/
import Derived.Test.YtekfccfghmggmaaShadeB
namespace Go.Proofs.Ytekfccfghmggmaa
open Go.RowKit
set_option linter.unusedVariables false
set_option linter.unusedSimpArgs false
attribute [local go_sem] ExtOf.cell

set_option maxRecDepth 100000 in
set_option maxHeartbeats 1000000 in
theorem BestShadeS_any (A : Option Addr) (n c : Nat) (xs : List Shade) (hue light : Int) (w : World) (h : ShL w A n xs) :
    Calls Try.prog 17 #[.slice A n c, .int .i64 hue, .int .i64 light] w fun e w' => e = .returned (.tuple #[.string (bestR xs hue light), .bool (bestOk xs hue light)]) ∧ Ext w w' := by
  have hsm := h.small
  rcases chain3 (shadesOk xs) (inB hue 0 359) (inB light 0 100) with h1 | ⟨h1, h2⟩ | ⟨h1, h2, h3⟩ | ⟨h1, h2, h3⟩
  · go_enter Try.func17, Try.ntmps17
    go_wp2_with (first | (go_at_call 32; refine (l7Good_L h).mono ?_; rintro e wa ⟨rfl, he1⟩; have hc1 := he1.cells) | (go_at_call 49; refine (l7Hue_any _ _).mono ?_; rintro e w' ⟨rfl, rfl⟩) | (go_at_call 50; refine (l1In_any _ _ _ _).mono ?_; rintro e w' ⟨rfl, rfl⟩))
    go_ret2
    exact ⟨ret_str_bool (by simp [bestR, bestOk, bestAsk, h1]; rfl) (by simp [bestOk, bestAsk, h1]), he1⟩
  · go_enter Try.func17, Try.ntmps17
    go_wp2_with (first | (go_at_call 32; refine (l7Good_L h).mono ?_; rintro e wa ⟨rfl, he1⟩; have hc1 := he1.cells) | (go_at_call 49; refine (l7Hue_any _ _).mono ?_; rintro e w' ⟨rfl, rfl⟩) | (go_at_call 50; refine (l1In_any _ _ _ _).mono ?_; rintro e w' ⟨rfl, rfl⟩))
    go_ret2
    exact ⟨ret_str_bool (by simp [bestR, bestOk, bestAsk, h1, h2]; rfl) (by simp [bestOk, bestAsk, h1, h2]), he1⟩
  · go_enter Try.func17, Try.ntmps17
    go_wp2_with (first | (go_at_call 32; refine (l7Good_L h).mono ?_; rintro e wa ⟨rfl, he1⟩; have hc1 := he1.cells) | (go_at_call 49; refine (l7Hue_any _ _).mono ?_; rintro e w' ⟨rfl, rfl⟩) | (go_at_call 50; refine (l1In_any _ _ _ _).mono ?_; rintro e w' ⟨rfl, rfl⟩))
    go_ret2
    exact ⟨ret_str_bool (by simp [bestR, bestOk, bestAsk, h1, h2, h3]; rfl) (by simp [bestOk, bestAsk, h1, h2, h3]), he1⟩
  · have hask : bestAsk xs hue light = true := by simp [bestAsk, h1, h2, h3]
    have hg := Lib.hid (shadesOk_good h1)
    obtain ⟨hu1, hu2⟩ := inB_iff.1 h2
    go_enter Try.func17, Try.ntmps17
    go_wp2_with (first | (go_at_call 32; refine (l7Good_L h).mono ?_; rintro e wa ⟨rfl, he1⟩; have hc1 := he1.cells) | (go_at_call 49; refine (l7Hue_any _ _).mono ?_; rintro e w' ⟨rfl, rfl⟩) | (go_at_call 50; refine (l1In_any _ _ _ _).mono ?_; rintro e w' ⟨rfl, rfl⟩))
    clear hc1
    go_loopw [8, 9] (fun m i wr => ∃ k : Nat, k ≤ n ∧ i = .int .i64 k ∧ m = .int .i64 (bestTo xs hue light k) ∧ Ext w wr) (fun _ i _ => n - (intOf i).toNat)
    case atStart => exact ⟨0, Nat.zero_le _, rfl, rfl, he1⟩
    case round =>
      obtain ⟨k, hk, rfl, rfl, he⟩ := hrel
      obtain ⟨bd1, bd2⟩ := bestTo_bd xs hue light k
      by_cases hlt : k < n
      · obtain ⟨b, off, x, rfl, hb, hx, hxn, g0, g1, g2, g3, g4⟩ := (h.ext he).at_ hlt
        have hxg := hg.out x (List.mem_of_getElem? hx.out)
        cases ht : takes hue light x
        · have hs := Lib.hid (best_skip hx.out ht)
          generalize bestTo xs hue light k = m at *
          go_wp2_with (go_at_call 51; refine (l7Takes_any x _ _ hxg (by omega) (by omega) _).mono ?_; rintro e wb ⟨rfl, he2⟩)
          go_roundw
          case rel => exact ⟨k + 1, by omega, by go_num, by rw [hs.out], he.trans he2⟩
          case measure => simp [intOf]; omega
        · by_cases hm : bestTo xs hue light k < 0
          · have hs := Lib.hid (best_first hx.out ht hm)
            generalize bestTo xs hue light k = m at *
            go_wp2_with (go_at_call 51; refine (l7Takes_any x _ _ hxg (by omega) (by omega) _).mono ?_; rintro e wb ⟨rfl, he2⟩)
            go_roundw
            case rel => exact ⟨k + 1, by omega, by go_num, by rw [hs.out], he.trans he2⟩
            case measure => simp [intOf]; omega
          · have hm0 : 0 ≤ bestTo xs hue light k := by omega
            obtain ⟨b', off', y, eA, hb', hy, hyn, q0, q1, q2, q3, q4⟩ := (h.ext he).at_ (show (bestTo xs hue light k).toNat < n by omega)
            injection eA with eA
            injection eA with e1 e2
            subst e1; subst e2
            obtain ⟨hyr1, hyr2⟩ : (bestTo xs hue light k).toNat < n ∧ (bestTo xs hue light k) < n := by omega
            have hyg := hg.out y (List.mem_of_getElem? hy.out)
            obtain ⟨_, ⟨a2, a3⟩, ⟨a4, a5⟩, ⟨a6, a7⟩, a8⟩ := shOk_all hxg
            obtain ⟨_, ⟨b2, b3⟩, ⟨b4, b5⟩, ⟨b6, b7⟩, b8⟩ := shOk_all hyg
            rcases Int.lt_trichotomy (hueDist x.Hue hue) (hueDist y.Hue hue) with hd | hd | hd
            · have hs := Lib.hid (best_new hx.out ht hm0 hy.out (by simp [closer, hd]))
              have hd1 : decide (hueDist x.Hue hue < hueDist y.Hue hue) = true := by simpa using hd
              generalize bestTo xs hue light k = m at *
              go_wp2_with (go_at_call 51; refine (l7Takes_any x _ _ hxg (by omega) (by omega) _).mono ?_; rintro e wb ⟨rfl, he2⟩)
              have hc2 := he2.cells
              have hb2 : b < wb.heap.size := by have := he2.size; omega
              (refine wp_region_ext_lit (by kernel_rfl) (by kernel_rfl) ?_; (repeat (go_big_quiet_step (((go_at_call 52; exact ext_call_same (l7Far_any _ _ (by omega) (by omega) (by omega) (by omega) _)))))); refine wpQuiet_nil ?_; rintro wq ⟨⟨_, heq⟩, rfl⟩; (try dsimp only))
              go_wp2
              have heA := heq
              have hb3 : b < wq.heap.size := by have := heA.size; omega
              have hc3 := heA.cells
              (refine wp_region_ext_lit (by kernel_rfl) (by kernel_rfl) ?_; (repeat (go_big_quiet_step ((fail)))); refine wpQuiet_nil ?_; rintro wq ⟨⟨_, heq⟩, rfl⟩; (try dsimp only))
              go_wp2
              go_roundw
              case rel => exact ⟨k + 1, by omega, by go_num, by rw [hs.out], (he.trans he2).trans (heA.trans heq)⟩
              case measure => simp [intOf]; omega
            · have hd1 : decide (hueDist x.Hue hue < hueDist y.Hue hue) = false := by simp; omega
              have hd2 : (hueDist x.Hue hue == hueDist y.Hue hue) = true := by simpa using hd
              by_cases hwd : x.Width < y.Width
              · have hs := Lib.hid (best_new hx.out ht hm0 hy.out (by simp [closer, hd, hwd]))
                have hd3 : decide (x.Width < y.Width) = true := by simpa using hwd
                have HD := Lib.hid hd
                clear hd
                generalize bestTo xs hue light k = m at *
                go_wp2_with (go_at_call 51; refine (l7Takes_any x _ _ hxg (by omega) (by omega) _).mono ?_; rintro e wb ⟨rfl, he2⟩)
                have hc2 := he2.cells
                have hb2 : b < wb.heap.size := by have := he2.size; omega
                (refine wp_region_ext_lit (by kernel_rfl) (by kernel_rfl) ?_; (repeat (go_big_quiet_step (((go_at_call 52; exact ext_call_same (l7Far_any _ _ (by omega) (by omega) (by omega) (by omega) _)))))); refine wpQuiet_nil ?_; rintro wq ⟨⟨_, heq⟩, rfl⟩; (try dsimp only))
                go_wp2
                have heA := heq
                have hb3 : b < wq.heap.size := by have := heA.size; omega
                have hc3 := heA.cells
                (refine wp_region_ext_lit (by kernel_rfl) (by kernel_rfl) ?_; (repeat (go_big_quiet_step ((fail)))); refine wpQuiet_nil ?_; rintro wq ⟨⟨_, heq⟩, rfl⟩; (try dsimp only))
                go_wp2
                go_roundw
                case rel => exact ⟨k + 1, by omega, by go_num, by rw [hs.out], (he.trans he2).trans (heA.trans heq)⟩
                case measure => simp [intOf]; omega
              · have hs := Lib.hid (best_old hx.out ht hm0 hy.out (by simp [closer, hd, hwd]))
                have hd3 : decide (x.Width < y.Width) = false := by simpa using hwd
                have HD := Lib.hid hd
                clear hd
                generalize bestTo xs hue light k = m at *
                go_wp2_with (go_at_call 51; refine (l7Takes_any x _ _ hxg (by omega) (by omega) _).mono ?_; rintro e wb ⟨rfl, he2⟩)
                have hc2 := he2.cells
                have hb2 : b < wb.heap.size := by have := he2.size; omega
                (refine wp_region_ext_lit (by kernel_rfl) (by kernel_rfl) ?_; (repeat (go_big_quiet_step (((go_at_call 52; exact ext_call_same (l7Far_any _ _ (by omega) (by omega) (by omega) (by omega) _)))))); refine wpQuiet_nil ?_; rintro wq ⟨⟨_, heq⟩, rfl⟩; (try dsimp only))
                go_wp2
                have heA := heq
                have hb3 : b < wq.heap.size := by have := heA.size; omega
                have hc3 := heA.cells
                (refine wp_region_ext_lit (by kernel_rfl) (by kernel_rfl) ?_; (repeat (go_big_quiet_step ((fail)))); refine wpQuiet_nil ?_; rintro wq ⟨⟨_, heq⟩, rfl⟩; (try dsimp only))
                go_wp2
                go_roundw
                case rel => exact ⟨k + 1, by omega, by go_num, by rw [hs.out], (he.trans he2).trans (heA.trans heq)⟩
                case measure => simp [intOf]; omega
            · have hs := Lib.hid (best_old hx.out ht hm0 hy.out (by simp [closer]; omega))
              have hd1 : decide (hueDist x.Hue hue < hueDist y.Hue hue) = false := by simp; omega
              have hd2 : (hueDist x.Hue hue == hueDist y.Hue hue) = false := by simp; omega
              generalize bestTo xs hue light k = m at *
              go_wp2_with (go_at_call 51; refine (l7Takes_any x _ _ hxg (by omega) (by omega) _).mono ?_; rintro e wb ⟨rfl, he2⟩)
              have hc2 := he2.cells
              have hb2 : b < wb.heap.size := by have := he2.size; omega
              (refine wp_region_ext_lit (by kernel_rfl) (by kernel_rfl) ?_; (repeat (go_big_quiet_step (((go_at_call 52; exact ext_call_same (l7Far_any _ _ (by omega) (by omega) (by omega) (by omega) _)))))); refine wpQuiet_nil ?_; rintro wq ⟨⟨_, heq⟩, rfl⟩; (try dsimp only))
              go_wp2
              have heA := heq
              have hb3 : b < wq.heap.size := by have := heA.size; omega
              have hc3 := heA.cells
              (refine wp_region_ext_lit (by kernel_rfl) (by kernel_rfl) ?_; (repeat (go_big_quiet_step ((fail)))); refine wpQuiet_nil ?_; rintro wq ⟨⟨_, heq⟩, rfl⟩; (try dsimp only))
              go_wp2
              go_roundw
              case rel => exact ⟨k + 1, by omega, by go_num, by rw [hs.out], (he.trans he2).trans (heA.trans heq)⟩
              case measure => simp [intOf]; omega
      · obtain rfl : n = k := by omega
        have hlen := h.len
        subst hlen
        cases hd : decide (bestTo xs hue light xs.length < 0)
        · have hm0 : 0 ≤ bestTo xs hue light xs.length := by simp at hd; omega
          obtain ⟨b, off, y, rfl, hb, hy, hyn, q0, q1, q2, q3, q4⟩ := (h.ext he).at_ (show (bestTo xs hue light xs.length).toNat < xs.length by omega)
          have hr := Lib.hid (show bestR xs hue light = y.Name by simp [bestR, bestOk, hask, hm0, hy.out])
          have hr2 := Lib.hid (show bestOk xs hue light = true by simp [bestOk, hask, hm0])
          generalize bestTo xs hue light xs.length = m at *
          go_wp2
          go_ret2
          exact ⟨ret_str_bool hr.out.symm hr2.out.symm, he⟩
        · have hm0 : ¬ 0 ≤ bestTo xs hue light xs.length := by simp at hd; omega
          have hr := Lib.hid (show bestR xs hue light = ByteArray.empty by simp [bestR, bestOk, hask, hm0])
          have hr2 := Lib.hid (show bestOk xs hue light = false by simp [bestOk, hask, hm0])
          generalize bestTo xs hue light xs.length = m at *
          go_wp2
          go_ret2
          exact ⟨ret_str_bool hr.out.symm hr2.out.symm, he⟩
end Go.Proofs.Ytekfccfghmggmaa
