/- Free colors: a closure handed to the library's search. -/
import Derived.Test.YtekfccfghmggmaaDoorShadeN
import Derived.Test.YtekfccfghmggmaaDoorFirst
namespace Go.Proofs.YtekfccfghmggmaaDoor
open Go.RowKit
set_option linter.unusedVariables false
set_option linter.unusedSimpArgs false
attribute [local go_sem] ExtOf.cell


set_option maxHeartbeats 400000 in
theorem Free1_any (x : Shade) (hue light : Int) (hx : shGood x = true) (h1 : 0 ≤ hue) (h2 : hue ≤ 359) (a b : Nat) (w : World) (ca : w.cell? ⟨a, 0, none⟩ = some (.int .i64 hue)) (cb : w.cell? ⟨b, 0, none⟩ = some (.int .i64 light)) :
    Calls Tryd.prog 41 #[.agg #[.string x.Name, .int .i64 x.Hue, .int .i64 x.Width, .int .i64 x.Dark, .int .i64 x.Light], .pointer (some ⟨a, 0, none⟩), .pointer (some ⟨b, 0, none⟩)] w fun e w' =>
      e = .returned (.bool (takes hue light x)) ∧ Ext w w' := by
  have la : a < w.heap.size := World.block_lt_of_cell? w _ ca
  have lb : b < w.heap.size := World.block_lt_of_cell? w _ cb
  go_enter Tryd.func41, Tryd.ntmps41
  go_wp2_with (go_at_call 36; refine (takes_any _ _ _ (by assumption) (by assumption) (by assumption) _).mono ?_; rintro e wa ⟨rfl, he1⟩)
  go_ret
  exact ⟨rfl, ((Ext.refl _).alloc _).trans he1⟩

set_option maxHeartbeats 400000 in
theorem IndexFree_any (A : Option Addr) (n c : Nat) (xs : List Shade) (hue light : Int) (a b : Nat) (w : World) (h : ShL w A n xs) (hg : ∀ x ∈ xs, shGood x = true) (h1 : 0 ≤ hue) (h2 : hue ≤ 359)
    (ca : w.cell? ⟨a, 0, none⟩ = some (.int .i64 hue)) (cb : w.cell? ⟨b, 0, none⟩ = some (.int .i64 light)) :
    Calls Tryd.prog 53 #[.slice A n c, .func (.func 41) #[] #[.pointer (some ⟨a, 0, none⟩), .pointer (some ⟨b, 0, none⟩)]] w fun e w' =>
      e = .returned (.int .i64 (firstAt (takes hue light) xs)) ∧ Ext w w' := by
  have HG := Lib.hid hg
  have CA := Lib.hid ca
  have CB := Lib.hid cb
  have hsm := h.small
  clear hg ca cb
  go_enter Tryd.func53, Tryd.ntmps53
  go_wp2
  go_loopw [8] (fun i wr => ∃ k : Nat, k ≤ n ∧ i = .int .i64 k ∧ noneTo (takes hue light) xs k ∧ Ext w wr) (fun i _ => n - (intOf i).toNat)
  case atStart => exact ⟨0, Nat.zero_le _, rfl, noneTo_zero _ _, Ext.refl _⟩
  case round =>
    obtain ⟨k, hk, rfl, hno, he⟩ := hrel
    have HN := Lib.hid hno
    clear hno
    by_cases hlt : k < n
    · obtain ⟨b', off, x, rfl, hb, hx, hxn, g0, g1, g2, g3, g4⟩ := (h.ext he).at_ hlt
      have hxg := HG.out x (List.mem_of_getElem? hx.out)
      have C := Lib.hid (Free1_any x hue light hxg h1 h2 a b wr (he.cell1 CA.out) (he.cell1 CB.out))
      cases ht : takes hue light x
      · go_wp2_with (go_at_call 41; refine C.out.mono ?_; rintro e wa ⟨rfl, he1⟩)
        go_roundw
        case rel => exact ⟨k + 1, by omega, by go_num, noneTo_succ HN.out hx.out ht, he.trans he1⟩
        case measure => simp [intOf]; omega
      · go_wp2_with (go_at_call 41; refine C.out.mono ?_; rintro e wa ⟨rfl, he1⟩)
        go_ret
        exact ⟨ret_int (firstAt_hit HN.out hx.out ht).symm, he.trans he1⟩
    · obtain rfl : k = n := by omega
      go_wp2
      go_ret
      exact ⟨ret_int (firstAt_miss (by have := h.len; omega) HN.out).symm, he⟩

set_option maxHeartbeats 400000 in
theorem ContainsFree_any (A : Option Addr) (n c : Nat) (xs : List Shade) (hue light : Int) (a b : Nat) (w : World) (h : ShL w A n xs) (hg : ∀ x ∈ xs, shGood x = true) (h1 : 0 ≤ hue) (h2 : hue ≤ 359)
    (ca : w.cell? ⟨a, 0, none⟩ = some (.int .i64 hue)) (cb : w.cell? ⟨b, 0, none⟩ = some (.int .i64 light)) :
    Calls Tryd.prog 34 #[.slice A n c, .func (.func 41) #[] #[.pointer (some ⟨a, 0, none⟩), .pointer (some ⟨b, 0, none⟩)]] w fun e w' =>
      e = .returned (.bool (xs.any (takes hue light))) ∧ Ext w w' := by
  have C := Lib.hid (IndexFree_any A n c xs hue light a b w h hg h1 h2 ca cb)
  clear hg ca cb
  have hl := firstAt_lo (takes hue light) xs
  have ha := Lib.hid (firstAt_any (takes hue light) xs)
  generalize firstAt (takes hue light) xs = f at *
  go_enter Tryd.func34, Tryd.ntmps34
  go_wp2_with (go_at_call 53; refine C.out.mono ?_; rintro e wa ⟨rfl, he1⟩)
  go_ret
  exact ⟨ret_bool ha.out, he1⟩

def freeAt (xs : List Shade) (light : Int) (h : Nat) : Bool := !(xs.any (takes (h : Int) light))
def freeOk (xs : List Shade) (light : Int) : Bool := shadesOk xs && inB light 0 100
def freeR (xs : List Shade) (light : Int) : Int := if freeOk xs light then (cnt (freeAt xs light) 360 : Int) else 0

set_option maxRecDepth 100000 in
set_option maxHeartbeats 1000000 in
theorem FreeColorsI_any (A : Option Addr) (n c : Nat) (xs : List Shade) (light : Int) (w : World) (h : ShL w A n xs) :
    Calls Tryd.prog 14 #[.slice A n c, .int .i64 light] w fun e w' => e = .returned (.tuple #[.int .i64 (freeR xs light), .bool (freeOk xs light)]) ∧ Ext w w' := by
  rcases chain2 (shadesOk xs) (inB light 0 100) with h1 | ⟨h1, h2⟩ | ⟨h1, h2⟩
  · go_enter Tryd.func14, Tryd.ntmps14
    go_wp2_with (first | (go_at_call 32; refine (areShades_L (h.ext ((Ext.refl _).alloc _))).mono ?_; rintro e wa ⟨rfl, he1⟩; have hc1 := he1.cells; have hz0 : w.heap.size < wa.heap.size := (by have h := he1.size; (try simp only [World.size_alloc, World.size_drew, szDrewN] at h); omega)) | (go_at_call 33; refine (isLight_any _ _).mono ?_; rintro e w' ⟨rfl, rfl⟩))
    go_ret2
    exact ⟨ret_int_bool (by simp [freeR, freeOk, h1]) (by simp [freeOk, h1]), ((Ext.refl _).alloc _).trans he1⟩
  · go_enter Tryd.func14, Tryd.ntmps14
    go_wp2_with (first | (go_at_call 32; refine (areShades_L (h.ext ((Ext.refl _).alloc _))).mono ?_; rintro e wa ⟨rfl, he1⟩; have hc1 := he1.cells; have hz0 : w.heap.size < wa.heap.size := (by have h := he1.size; (try simp only [World.size_alloc, World.size_drew, szDrewN] at h); omega)) | (go_at_call 33; refine (isLight_any _ _).mono ?_; rintro e w' ⟨rfl, rfl⟩))
    go_ret2
    exact ⟨ret_int_bool (by simp [freeR, freeOk, h1, h2]) (by simp [freeOk, h1, h2]), ((Ext.refl _).alloc _).trans he1⟩
  · have hg := Lib.hid (shadesOk_good h1)
    go_enter Tryd.func14, Tryd.ntmps14
    go_wp2_with (first | (go_at_call 32; refine (areShades_L (h.ext ((Ext.refl _).alloc _))).mono ?_; rintro e wa ⟨rfl, he1⟩; have hc1 := he1.cells; have hz0 : w.heap.size < wa.heap.size := (by have h := he1.size; (try simp only [World.size_alloc, World.size_drew, szDrewN] at h); omega)) | (go_at_call 33; refine (isLight_any _ _).mono ?_; rintro e w' ⟨rfl, rfl⟩))
    have he0 : Ext w wa := ((Ext.refl _).alloc _).trans he1
    have cl : wa.cell? ⟨w.heap.size, 0, none⟩ = some (.int .i64 light) := by rw [hc1 _ _ (by simp)]; simp [go_sem]
    have CL := Lib.hid cl
    clear cl hc1 hz0
    have lw : w.heap.size < wa.heap.size := World.block_lt_of_cell? wa _ CL.out
    have C := fun (wr : World) (k : Nat) (he : Ext wa wr) (hk : k < 360) (a : Nat) (ca : wr.cell? ⟨a, 0, none⟩ = some (.int .i64 (k : Int))) => ContainsFree_any A n c xs k light a w.heap.size wr (h.ext (he0.trans he)) hg.out (by omega) (by omega) ca (he.cell1 CL.out)
    have HC := Lib.hid C
    clear C
    go_loopw [6, 16] (fun m i wr => ∃ k : Nat, k ≤ 360 ∧ i = .int .i64 k ∧ m = .int .i64 (cnt (freeAt xs light) k : Int) ∧ Ext wa wr) (fun _ i _ => 360 - (intOf i).toNat)
    case atStart => exact ⟨0, Nat.zero_le _, rfl, rfl, Ext.refl _⟩
    case round =>
      obtain ⟨k, hk, rfl, rfl, he⟩ := hrel
      have hcl := cnt_le (freeAt xs light) k
      by_cases hlt : k < 360
      · have C := Lib.hid (HC.out (wr.alloc (.cells #[.int .i64 (k : Int)] 3)) k (he.alloc _) hlt wr.heap.size (by simp [go_sem]))
        cases ha : xs.any (takes (k : Int) light)
        · have hs := Lib.hid (cnt_yes (p := freeAt xs light) (h := k) (by simp [freeAt, ha]))
          go_wp2_with (go_at_call 34; refine C.out.mono ?_; rintro e wb ⟨rfl, he1⟩)
          go_roundw
          case rel => exact ⟨k + 1, by omega, by go_num, by rw [hs.out]; go_num, (he.alloc _).trans he1⟩
          case measure => simp [intOf]; omega
        · have hs := Lib.hid (cnt_no (p := freeAt xs light) (h := k) (by simp [freeAt, ha]))
          go_wp2_with (go_at_call 34; refine C.out.mono ?_; rintro e wb ⟨rfl, he1⟩)
          go_roundw
          case rel => exact ⟨k + 1, by omega, by go_num, by rw [hs.out], (he.alloc _).trans he1⟩
          case measure => simp [intOf]; omega
      · obtain rfl : k = 360 := by omega
        go_wp2
        go_ret2
        exact ⟨ret_int_bool (by simp [freeR, freeOk, h1, h2]) (by simp [freeOk, h1, h2]), he0.trans he⟩
end Go.Proofs.YtekfccfghmggmaaDoor
