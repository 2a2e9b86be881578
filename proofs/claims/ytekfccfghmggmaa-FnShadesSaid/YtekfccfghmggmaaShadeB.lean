/- The best shade. -/
import Derived.Test.YtekfccfghmggmaaShadeN
import Derived.Test.YtekfccfghmggmaaCmp
import Derived.Test.YtekfccfghmggmaaTail
namespace Go.Proofs.Ytekfccfghmggmaa
open Go.RowKit
set_option linter.unusedVariables false
set_option linter.unusedSimpArgs false
attribute [local go_sem] ExtOf.cell

def closer (hue : Int) (x y : Shade) : Bool := decide (hueDist x.Hue hue < hueDist y.Hue hue) || (decide (hueDist x.Hue hue = hueDist y.Hue hue) && decide (x.Width < y.Width))
def bestStep (xs : List Shade) (hue light : Int) (k : Nat) (b : Int) (x : Shade) : Int :=
  if takes hue light x then (if b < 0 then k else match xs[b.toNat]? with
    | some y => if closer hue x y then k else b
    | none => b) else b
def bestTo (xs : List Shade) (hue light : Int) : Nat → Int
  | 0 => -1
  | k + 1 => match xs[k]? with
    | some x => bestStep xs hue light k (bestTo xs hue light k) x
    | none => bestTo xs hue light k
theorem bestTo_bd (xs : List Shade) (hue light : Int) : ∀ k, -1 ≤ bestTo xs hue light k ∧ bestTo xs hue light k < k
  | 0 => by simp [bestTo]
  | k + 1 => by
    have ih := bestTo_bd xs hue light k
    unfold bestTo
    split
    · unfold bestStep; split <;> (try split) <;> (try split) <;> (try split) <;> omega
    · omega
theorem best_skip {xs : List Shade} {hue light : Int} {k : Nat} {x : Shade} (hx : xs[k]? = some x) (ht : takes hue light x = false) : bestTo xs hue light (k + 1) = bestTo xs hue light k := by
  rw [bestTo, hx]; simp [bestStep, ht]
theorem best_first {xs : List Shade} {hue light : Int} {k : Nat} {x : Shade} (hx : xs[k]? = some x) (ht : takes hue light x = true) (hb : bestTo xs hue light k < 0) : bestTo xs hue light (k + 1) = k := by
  rw [bestTo, hx]; simp [bestStep, ht, hb]
theorem best_new {xs : List Shade} {hue light : Int} {k : Nat} {x y : Shade} (hx : xs[k]? = some x) (ht : takes hue light x = true) (hb : 0 ≤ bestTo xs hue light k) (hy : xs[(bestTo xs hue light k).toNat]? = some y) (hc : closer hue x y = true) : bestTo xs hue light (k + 1) = k := by
  rw [bestTo, hx]; simp only [bestStep, ht, hy, hc, if_true]; rw [if_neg (by omega)]
theorem best_old {xs : List Shade} {hue light : Int} {k : Nat} {x y : Shade} (hx : xs[k]? = some x) (ht : takes hue light x = true) (hb : 0 ≤ bestTo xs hue light k) (hy : xs[(bestTo xs hue light k).toNat]? = some y) (hc : closer hue x y = false) : bestTo xs hue light (k + 1) = bestTo xs hue light k := by
  rw [bestTo, hx]; simp only [bestStep, ht, hy, hc, if_true]; rw [if_neg (by omega)]; simp
def bestAsk (xs : List Shade) (hue light : Int) : Bool := shadesOk xs && (inB hue 0 359 && inB light 0 100)
def bestOk (xs : List Shade) (hue light : Int) : Bool := bestAsk xs hue light && decide (0 ≤ bestTo xs hue light xs.length)
def bestR (xs : List Shade) (hue light : Int) : ByteArray := if bestOk xs hue light then (match xs[(bestTo xs hue light xs.length).toNat]? with
  | some y => y.Name
  | none => ByteArray.empty) else ByteArray.empty
theorem closer_or (hue : Int) (x y : Shade) : closer hue x y = decide (orI [cmpI (hueDist x.Hue hue) (hueDist y.Hue hue), cmpI x.Width y.Width] < 0) := by
  rw [Bool.eq_iff_iff]
  simp only [closer, orI, Bool.or_eq_true, Bool.and_eq_true, decide_eq_true_eq]
  generalize hueDist x.Hue hue = a
  generalize hueDist y.Hue hue = b
  generalize x.Width = c
  generalize y.Width = d
  rcases Int.lt_trichotomy a b with h | h | h
  · rw [cmpI_of_lt h]; simp [h]
  · rw [cmpI_of_eq h]
    rcases Int.lt_trichotomy c d with h' | h' | h'
    · rw [cmpI_of_lt h']; simp [h, h']
    · rw [cmpI_of_eq h']; simp; omega
    · rw [cmpI_of_gt h']; simp; omega
  · rw [cmpI_of_gt h]; simp; omega
theorem ret_str_bool {a b : ByteArray} {p q : Bool} (h : a = b) (h' : p = q) : Ending.returned (.tuple #[.string a, .bool p]) = .returned (.tuple #[.string b, .bool q]) := by rw [h, h']

set_option maxRecDepth 100000 in
set_option maxHeartbeats 1000000 in
theorem BestShadeI_any (A : Option Addr) (n c : Nat) (xs : List Shade) (hue light : Int) (w : World) (h : ShL w A n xs) :
    Calls Try.prog 16 #[.slice A n c, .int .i64 hue, .int .i64 light] w fun e w' => e = .returned (.tuple #[.string (bestR xs hue light), .bool (bestOk xs hue light)]) ∧ Ext w w' := by
  have hsm := h.small
  rcases chain3 (shadesOk xs) (inB hue 0 359) (inB light 0 100) with h1 | ⟨h1, h2⟩ | ⟨h1, h2, h3⟩ | ⟨h1, h2, h3⟩
  · go_enter Try.func16, Try.ntmps16
    go_wp2_with (first | (go_at_call 35; refine (areShades_L h).mono ?_; rintro e wa ⟨rfl, he1⟩; have hc1 := he1.cells) | (go_at_call 43; refine (isHue_any _ _).mono ?_; rintro e w' ⟨rfl, rfl⟩) | (go_at_call 44; refine (isLight_any _ _).mono ?_; rintro e w' ⟨rfl, rfl⟩))
    go_ret2
    exact ⟨ret_str_bool (by simp [bestR, bestOk, bestAsk, h1]; rfl) (by simp [bestOk, bestAsk, h1]), he1⟩
  · go_enter Try.func16, Try.ntmps16
    go_wp2_with (first | (go_at_call 35; refine (areShades_L h).mono ?_; rintro e wa ⟨rfl, he1⟩; have hc1 := he1.cells) | (go_at_call 43; refine (isHue_any _ _).mono ?_; rintro e w' ⟨rfl, rfl⟩) | (go_at_call 44; refine (isLight_any _ _).mono ?_; rintro e w' ⟨rfl, rfl⟩))
    go_ret2
    exact ⟨ret_str_bool (by simp [bestR, bestOk, bestAsk, h1, h2]; rfl) (by simp [bestOk, bestAsk, h1, h2]), he1⟩
  · go_enter Try.func16, Try.ntmps16
    go_wp2_with (first | (go_at_call 35; refine (areShades_L h).mono ?_; rintro e wa ⟨rfl, he1⟩; have hc1 := he1.cells) | (go_at_call 43; refine (isHue_any _ _).mono ?_; rintro e w' ⟨rfl, rfl⟩) | (go_at_call 44; refine (isLight_any _ _).mono ?_; rintro e w' ⟨rfl, rfl⟩))
    go_ret2
    exact ⟨ret_str_bool (by simp [bestR, bestOk, bestAsk, h1, h2, h3]; rfl) (by simp [bestOk, bestAsk, h1, h2, h3]), he1⟩
  · have hask : bestAsk xs hue light = true := by simp [bestAsk, h1, h2, h3]
    have hg := Lib.hid (shadesOk_good h1)
    obtain ⟨hu1, hu2⟩ := inB_iff.1 h2
    go_enter Try.func16, Try.ntmps16
    go_wp2_with (first | (go_at_call 35; refine (areShades_L h).mono ?_; rintro e wa ⟨rfl, he1⟩; have hc1 := he1.cells) | (go_at_call 43; refine (isHue_any _ _).mono ?_; rintro e w' ⟨rfl, rfl⟩) | (go_at_call 44; refine (isLight_any _ _).mono ?_; rintro e w' ⟨rfl, rfl⟩))
    clear hc1
    go_loopw [8, 26] (fun m i wr => ∃ k : Nat, k ≤ n ∧ i = .int .i64 k ∧ m = .int .i64 (bestTo xs hue light k) ∧ Ext w wr) (fun _ i _ => n - (intOf i).toNat)
    case atStart => exact ⟨0, Nat.zero_le _, rfl, rfl, he1⟩
    case round =>
      obtain ⟨k, hk, rfl, rfl, he⟩ := hrel
      obtain ⟨bd1, bd2⟩ := bestTo_bd xs hue light k
      by_cases hlt : k < n
      · obtain ⟨b, off, x, rfl, hb, hx, hxn, g0, g1, g2, g3, g4⟩ := (h.ext he).at_ hlt
        have hxg := hg.out x (List.mem_of_getElem? hx.out)
        cases ht : takes hue light x
        · have hs := Lib.hid (best_skip hx.out ht)
          generalize bestTo xs hue light k = m at *
          go_wp2_with (go_at_call 45; refine (takes_any x _ _ hxg (by omega) (by omega) _).mono ?_; rintro e wb ⟨rfl, he2⟩)
          go_roundw
          case rel => exact ⟨k + 1, by omega, by go_num, by rw [hs.out], (he.alloc _).trans he2⟩
          case measure => simp [intOf]; omega
        · by_cases hm : bestTo xs hue light k < 0
          · have hs := Lib.hid (best_first hx.out ht hm)
            have hd : decide (bestTo xs hue light k < 0) = true := by simpa using hm
            generalize bestTo xs hue light k = m at *
            go_wp2_with (go_at_call 45; refine (takes_any x _ _ hxg (by omega) (by omega) _).mono ?_; rintro e wb ⟨rfl, he2⟩)
            (refine wp_region_ext_lit (by kernel_rfl) (by kernel_rfl) ?_; (repeat (go_big_quiet_step ((fail)))); refine wpQuiet_nil ?_; rintro wq ⟨⟨_, heq⟩, rfl⟩; (try dsimp only))
            go_wp2
            go_roundw
            case rel => exact ⟨k + 1, by omega, by go_num, by rw [hs.out], ((he.alloc _).trans he2).trans heq⟩
            case measure => simp [intOf]; omega
          · have hm0 : 0 ≤ bestTo xs hue light k := by omega
            obtain ⟨b', off', y, eA, hb', hy, hyn, q0, q1, q2, q3, q4⟩ := (h.ext he).at_ (show (bestTo xs hue light k).toNat < n by omega)
            injection eA with eA
            injection eA with e1 e2
            subst e1; subst e2
            have hd : decide (bestTo xs hue light k < 0) = false := by simp; omega
            obtain ⟨hyr1, hyr2⟩ : (bestTo xs hue light k).toNat < n ∧ (bestTo xs hue light k) < n := by omega
            have hyg := hg.out y (List.mem_of_getElem? hy.out)
            obtain ⟨_, ⟨a2, a3⟩, ⟨a4, a5⟩, ⟨a6, a7⟩, a8⟩ := shOk_all hxg
            obtain ⟨_, ⟨b2, b3⟩, ⟨b4, b5⟩, ⟨b6, b7⟩, b8⟩ := shOk_all hyg
            have hco := closer_or hue x y
            cases hcl : closer hue x y
            · have hs := Lib.hid (best_old hx.out ht hm0 hy.out hcl)
              rw [hcl] at hco
              have hor : ¬ orI [cmpI (hueDist x.Hue hue) (hueDist y.Hue hue), cmpI x.Width y.Width] < 0 := by simpa using hco.symm
              clear hco
              generalize bestTo xs hue light k = m at *
              go_wp2_with (go_at_call 45; refine (takes_any x _ _ hxg (by omega) (by omega) _).mono ?_; rintro e wb ⟨rfl, he2⟩)
              have hc2 := he2.cells
              have hz2 : wr.heap.size < wb.heap.size := (by have h := he2.size; (try simp only [World.size_alloc] at h); omega)
              have hb2 : b < wb.heap.size := by omega
              have hb3 : b < wr.heap.size + 1 := by omega
              (refine wp_region_ext_tail 23 (by kernel_rfl) (by kernel_rfl) ?_; simp only [List.take_succ_cons, List.take_zero, List.drop_succ_cons, List.drop_zero]; (repeat (go_big_quiet_step ((first | (go_at_call 48; exact ext_call_same (hueDistance_any _ _ (by omega) (by omega) (by omega) (by omega) _)) | (go_at_call 47; exact ext_call_same (Compare_any _ _ _)))))); refine wpQuiet_nil ?_; rintro wq ⟨⟨_, heq⟩, rfl⟩; (try dsimp only))
              go_wp2_with (go_at_call 46; refine (Or2_any _ _ _ _).mono ?_; rintro e wc ⟨rfl, rfl⟩)
              go_roundw
              case rel => exact ⟨k + 1, by omega, by go_num, by rw [hs.out], (((he.alloc _).trans he2).trans heq).alloc _⟩
              case measure => simp [intOf]; omega
            · have hs := Lib.hid (best_new hx.out ht hm0 hy.out hcl)
              rw [hcl] at hco
              have hor : orI [cmpI (hueDist x.Hue hue) (hueDist y.Hue hue), cmpI x.Width y.Width] < 0 := by simpa using hco.symm
              clear hco
              generalize bestTo xs hue light k = m at *
              go_wp2_with (go_at_call 45; refine (takes_any x _ _ hxg (by omega) (by omega) _).mono ?_; rintro e wb ⟨rfl, he2⟩)
              have hc2 := he2.cells
              have hz2 : wr.heap.size < wb.heap.size := (by have h := he2.size; (try simp only [World.size_alloc] at h); omega)
              have hb2 : b < wb.heap.size := by omega
              have hb3 : b < wr.heap.size + 1 := by omega
              (refine wp_region_ext_tail 23 (by kernel_rfl) (by kernel_rfl) ?_; simp only [List.take_succ_cons, List.take_zero, List.drop_succ_cons, List.drop_zero]; (repeat (go_big_quiet_step ((first | (go_at_call 48; exact ext_call_same (hueDistance_any _ _ (by omega) (by omega) (by omega) (by omega) _)) | (go_at_call 47; exact ext_call_same (Compare_any _ _ _)))))); refine wpQuiet_nil ?_; rintro wq ⟨⟨_, heq⟩, rfl⟩; (try dsimp only))
              go_wp2_with (go_at_call 46; refine (Or2_any _ _ _ _).mono ?_; rintro e wc ⟨rfl, rfl⟩)
              go_roundw
              case rel => exact ⟨k + 1, by omega, by go_num, by rw [hs.out], (((he.alloc _).trans he2).trans heq).alloc _⟩
              case measure => simp [intOf]; omega
      · obtain rfl : n = k := by omega
        have hlen := h.len
        subst hlen
        cases hd : decide (bestTo xs hue light xs.length < 0)
        · have hm0 : 0 ≤ bestTo xs hue light xs.length := by simp at hd; omega
          obtain ⟨b, off, y, rfl, hb, hy, hyn, q0, q1, q2, q3, q4⟩ := (h.ext he).at_ (show (bestTo xs hue light xs.length).toNat < xs.length by omega)
          have hr := Lib.hid (show bestR xs hue light = y.Name by simp [bestR, bestOk, hask, hm0, hy.out])
          have hr2 := Lib.hid (show bestOk xs hue light = true by simp [bestOk, hask, hm0])
          generalize bestTo xs hue light xs.length = m at *
          go_wp2
          go_ret2
          exact ⟨ret_str_bool hr.out.symm hr2.out.symm, he⟩
        · have hm0 : ¬ 0 ≤ bestTo xs hue light xs.length := by simp at hd; omega
          have hr := Lib.hid (show bestR xs hue light = ByteArray.empty by simp [bestR, bestOk, hask, hm0])
          have hr2 := Lib.hid (show bestOk xs hue light = false by simp [bestOk, hask, hm0])
          generalize bestTo xs hue light xs.length = m at *
          go_wp2
          go_ret2
          exact ⟨ret_str_bool hr.out.symm hr2.out.symm, he⟩
end Go.Proofs.Ytekfccfghmggmaa
