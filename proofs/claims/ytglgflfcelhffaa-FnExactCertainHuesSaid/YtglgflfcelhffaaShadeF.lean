/- Free colors: a closure handed to the library's search. -/
import Derived.Test.YtglgflfcelhffaaShadeN
namespace Go.Proofs.Ytglgflfcelhffaa
open Go.RowKit
set_option linter.unusedVariables false
set_option linter.unusedSimpArgs false
attribute [local go_sem] ExtOf.cell

/-- The first place whose element fits, or -1. -/
def firstAt {α : Type} (p : α → Bool) (xs : List α) : Int := match xs.findIdx? p with
  | some i => (i : Int)
  | none => -1
def noneTo {α : Type} (p : α → Bool) (xs : List α) (k : Nat) : Prop := ∀ x ∈ xs.take k, p x = false
theorem noneTo_zero {α : Type} (p : α → Bool) (xs : List α) : noneTo p xs 0 := by simp [noneTo]
theorem noneTo_succ {α : Type} {p : α → Bool} {xs : List α} {k : Nat} {x : α} (h : noneTo p xs k) (hx : xs[k]? = some x) (hp : p x = false) : noneTo p xs (k + 1) := by
  obtain ⟨hk, e⟩ := List.getElem?_eq_some_iff.1 hx
  intro y hy
  rw [List.take_succ_eq_append_getElem hk] at hy
  rcases List.mem_append.1 hy with hy | hy
  · exact h y hy
  · simp only [List.mem_singleton] at hy
    rw [hy, e]; exact hp
theorem firstAt_hit {α : Type} {p : α → Bool} {xs : List α} {k : Nat} {x : α} (h : noneTo p xs k) (hx : xs[k]? = some x) (hp : p x = true) : firstAt p xs = k := by
  obtain ⟨hk, e⟩ := List.getElem?_eq_some_iff.1 hx
  have : xs.findIdx? p = some k := by
    rw [List.findIdx?_eq_some_iff_getElem]
    refine ⟨hk, by rw [e]; exact hp, fun j hj => ?_⟩
    have := h xs[j] (by rw [List.mem_take_iff_getElem]; exact ⟨j, by omega, rfl⟩)
    simp [this]
  unfold firstAt; rw [this]
theorem firstAt_miss {α : Type} {p : α → Bool} {xs : List α} {n : Nat} (hn : xs.length ≤ n) (h : noneTo p xs n) : firstAt p xs = -1 := by
  have : xs.findIdx? p = none := by
    rw [List.findIdx?_eq_none_iff]
    intro x hx
    exact h x (by rw [List.take_of_length_le hn]; exact hx)
  unfold firstAt; rw [this]
theorem firstAt_any {α : Type} (p : α → Bool) (xs : List α) : decide (0 ≤ firstAt p xs) = xs.any p := by
  unfold firstAt
  cases h : xs.findIdx? p with
  | none =>
    rw [List.findIdx?_eq_none_iff] at h
    have : xs.any p = false := by rw [List.any_eq_false]; intro x hx; simp [h x hx]
    rw [this]; simp
  | some i =>
    rw [List.findIdx?_eq_some_iff_getElem] at h
    obtain ⟨hi, hp, _⟩ := h
    have : xs.any p = true := List.any_eq_true.2 ⟨xs[i], List.getElem_mem hi, hp⟩
    rw [this]; simp
theorem firstAt_lo {α : Type} (p : α → Bool) (xs : List α) : -1 ≤ firstAt p xs := by
  unfold firstAt; split <;> omega

set_option maxHeartbeats 400000 in
theorem Free1_any (x : Shade) (hue light : Int) (hx : shGood x = true) (h1 : 0 ≤ hue) (h2 : hue ≤ 359) (a b : Nat) (w : World) (ca : w.cell? ⟨a, 0, none⟩ = some (.int .i64 hue)) (cb : w.cell? ⟨b, 0, none⟩ = some (.int .i64 light)) :
    Calls Try.prog 71 #[.agg #[.string x.Name, .int .i64 x.Hue, .int .i64 x.Width, .int .i64 x.Dark, .int .i64 x.Light], .pointer (some ⟨a, 0, none⟩), .pointer (some ⟨b, 0, none⟩)] w fun e w' =>
      e = .returned (.bool (takes hue light x)) ∧ Ext w w' := by
  have la : a < w.heap.size := World.block_lt_of_cell? w _ ca
  have lb : b < w.heap.size := World.block_lt_of_cell? w _ cb
  go_enter Try.func71, Try.ntmps71
  go_wp2_with (go_at_call 72; refine (takes_any _ _ _ (by assumption) (by assumption) (by assumption) _).mono ?_; rintro e wa ⟨rfl, he1⟩)
  go_ret
  exact ⟨rfl, ((Ext.refl _).alloc _).trans he1⟩

set_option maxHeartbeats 400000 in
theorem IndexFree_any (A : Option Addr) (n c : Nat) (xs : List Shade) (hue light : Int) (a b : Nat) (w : World) (h : ShL w A n xs) (hg : ∀ x ∈ xs, shGood x = true) (h1 : 0 ≤ hue) (h2 : hue ≤ 359)
    (ca : w.cell? ⟨a, 0, none⟩ = some (.int .i64 hue)) (cb : w.cell? ⟨b, 0, none⟩ = some (.int .i64 light)) :
    Calls Try.prog 85 #[.slice A n c, .func (.func 71) #[] #[.pointer (some ⟨a, 0, none⟩), .pointer (some ⟨b, 0, none⟩)]] w fun e w' =>
      e = .returned (.int .i64 (firstAt (takes hue light) xs)) ∧ Ext w w' := by
  have HG := Lib.hid hg
  have CA := Lib.hid ca
  have CB := Lib.hid cb
  have hsm := h.small
  clear hg ca cb
  go_enter Try.func85, Try.ntmps85
  go_wp2
  go_loopw [8] (fun i wr => ∃ k : Nat, k ≤ n ∧ i = .int .i64 k ∧ noneTo (takes hue light) xs k ∧ Ext w wr) (fun i _ => n - (intOf i).toNat)
  case atStart => exact ⟨0, Nat.zero_le _, rfl, noneTo_zero _ _, Ext.refl _⟩
  case round =>
    obtain ⟨k, hk, rfl, hno, he⟩ := hrel
    have HN := Lib.hid hno
    clear hno
    by_cases hlt : k < n
    · obtain ⟨b', off, x, rfl, hb, hx, hxn, g0, g1, g2, g3, g4⟩ := (h.ext he).at_ hlt
      have hxg := HG.out x (List.mem_of_getElem? hx.out)
      have C := Lib.hid (Free1_any x hue light hxg h1 h2 a b wr (he.cell1 CA.out) (he.cell1 CB.out))
      cases ht : takes hue light x
      · go_wp2_with (go_at_call 71; refine C.out.mono ?_; rintro e wa ⟨rfl, he1⟩)
        go_roundw
        case rel => exact ⟨k + 1, by omega, by go_num, noneTo_succ HN.out hx.out ht, he.trans he1⟩
        case measure => simp [intOf]; omega
      · go_wp2_with (go_at_call 71; refine C.out.mono ?_; rintro e wa ⟨rfl, he1⟩)
        go_ret
        exact ⟨ret_int (firstAt_hit HN.out hx.out ht).symm, he.trans he1⟩
    · obtain rfl : k = n := by omega
      go_wp2
      go_ret
      exact ⟨ret_int (firstAt_miss (by have := h.len; omega) HN.out).symm, he⟩

set_option maxHeartbeats 400000 in
theorem ContainsFree_any (A : Option Addr) (n c : Nat) (xs : List Shade) (hue light : Int) (a b : Nat) (w : World) (h : ShL w A n xs) (hg : ∀ x ∈ xs, shGood x = true) (h1 : 0 ≤ hue) (h2 : hue ≤ 359)
    (ca : w.cell? ⟨a, 0, none⟩ = some (.int .i64 hue)) (cb : w.cell? ⟨b, 0, none⟩ = some (.int .i64 light)) :
    Calls Try.prog 70 #[.slice A n c, .func (.func 71) #[] #[.pointer (some ⟨a, 0, none⟩), .pointer (some ⟨b, 0, none⟩)]] w fun e w' =>
      e = .returned (.bool (xs.any (takes hue light))) ∧ Ext w w' := by
  have C := Lib.hid (IndexFree_any A n c xs hue light a b w h hg h1 h2 ca cb)
  clear hg ca cb
  have hl := firstAt_lo (takes hue light) xs
  have ha := Lib.hid (firstAt_any (takes hue light) xs)
  generalize firstAt (takes hue light) xs = f at *
  go_enter Try.func70, Try.ntmps70
  go_wp2_with (go_at_call 85; refine C.out.mono ?_; rintro e wa ⟨rfl, he1⟩)
  go_ret
  exact ⟨ret_bool ha.out, he1⟩

/-- How many numbers below h fit. -/
def cnt (p : Nat → Bool) : Nat → Nat
  | 0 => 0
  | h + 1 => cnt p h + if p h then 1 else 0
theorem cnt_le (p : Nat → Bool) : ∀ h, cnt p h ≤ h
  | 0 => Nat.le_refl _
  | h + 1 => by have := cnt_le p h; unfold cnt; split <;> omega
theorem cnt_yes {p : Nat → Bool} {h : Nat} (hp : p h = true) : cnt p (h + 1) = cnt p h + 1 := by simp [cnt, hp]
theorem cnt_no {p : Nat → Bool} {h : Nat} (hp : p h = false) : cnt p (h + 1) = cnt p h := by simp [cnt, hp]
theorem cnt_congr {p q : Nat → Bool} : ∀ h, (∀ i, i < h → p i = q i) → cnt p h = cnt q h
  | 0, _ => rfl
  | h + 1, e => by unfold cnt; rw [cnt_congr h (fun i hi => e i (by omega)), e h (by omega)]
def freeAt (xs : List Shade) (light : Int) (h : Nat) : Bool := !(xs.any (takes (h : Int) light))
def freeOk (xs : List Shade) (light : Int) : Bool := shadesOk xs && inB light 0 100
def freeR (xs : List Shade) (light : Int) : Int := if freeOk xs light then (cnt (freeAt xs light) 360 : Int) else 0

set_option maxRecDepth 100000 in
set_option maxHeartbeats 1000000 in
theorem FreeColorsI_any (A : Option Addr) (n c : Nat) (xs : List Shade) (light : Int) (w : World) (h : ShL w A n xs) :
    Calls Try.prog 33 #[.slice A n c, .int .i64 light] w fun e w' => e = .returned (.tuple #[.int .i64 (freeR xs light), .bool (freeOk xs light)]) ∧ Ext w w' := by
  rcases chain2 (shadesOk xs) (inB light 0 100) with h1 | ⟨h1, h2⟩ | ⟨h1, h2⟩
  · go_enter Try.func33, Try.ntmps33
    go_wp2_with (first | (go_at_call 65; refine (areShades_L (h.ext ((Ext.refl _).alloc _))).mono ?_; rintro e wa ⟨rfl, he1⟩; have hc1 := he1.cells; have hz0 : w.heap.size < wa.heap.size := (by have h := he1.size; (try simp only [World.size_alloc, World.size_drew, szDrewN] at h); omega)) | (go_at_call 69; refine (isLight_any _ _).mono ?_; rintro e w' ⟨rfl, rfl⟩))
    go_ret2
    exact ⟨ret_int_bool (by simp [freeR, freeOk, h1]) (by simp [freeOk, h1]), ((Ext.refl _).alloc _).trans he1⟩
  · go_enter Try.func33, Try.ntmps33
    go_wp2_with (first | (go_at_call 65; refine (areShades_L (h.ext ((Ext.refl _).alloc _))).mono ?_; rintro e wa ⟨rfl, he1⟩; have hc1 := he1.cells; have hz0 : w.heap.size < wa.heap.size := (by have h := he1.size; (try simp only [World.size_alloc, World.size_drew, szDrewN] at h); omega)) | (go_at_call 69; refine (isLight_any _ _).mono ?_; rintro e w' ⟨rfl, rfl⟩))
    go_ret2
    exact ⟨ret_int_bool (by simp [freeR, freeOk, h1, h2]) (by simp [freeOk, h1, h2]), ((Ext.refl _).alloc _).trans he1⟩
  · have hg := Lib.hid (shadesOk_good h1)
    go_enter Try.func33, Try.ntmps33
    go_wp2_with (first | (go_at_call 65; refine (areShades_L (h.ext ((Ext.refl _).alloc _))).mono ?_; rintro e wa ⟨rfl, he1⟩; have hc1 := he1.cells; have hz0 : w.heap.size < wa.heap.size := (by have h := he1.size; (try simp only [World.size_alloc, World.size_drew, szDrewN] at h); omega)) | (go_at_call 69; refine (isLight_any _ _).mono ?_; rintro e w' ⟨rfl, rfl⟩))
    have he0 : Ext w wa := ((Ext.refl _).alloc _).trans he1
    have cl : wa.cell? ⟨w.heap.size, 0, none⟩ = some (.int .i64 light) := by rw [hc1 _ _ (by simp)]; simp [go_sem]
    have CL := Lib.hid cl
    clear cl hc1 hz0
    have lw : w.heap.size < wa.heap.size := World.block_lt_of_cell? wa _ CL.out
    have C := fun (wr : World) (k : Nat) (he : Ext wa wr) (hk : k < 360) (a : Nat) (ca : wr.cell? ⟨a, 0, none⟩ = some (.int .i64 (k : Int))) => ContainsFree_any A n c xs k light a w.heap.size wr (h.ext (he0.trans he)) hg.out (by omega) (by omega) ca (he.cell1 CL.out)
    have HC := Lib.hid C
    clear C
    go_loopw [6, 16] (fun m i wr => ∃ k : Nat, k ≤ 360 ∧ i = .int .i64 k ∧ m = .int .i64 (cnt (freeAt xs light) k : Int) ∧ Ext wa wr) (fun _ i _ => 360 - (intOf i).toNat)
    case atStart => exact ⟨0, Nat.zero_le _, rfl, rfl, Ext.refl _⟩
    case round =>
      obtain ⟨k, hk, rfl, rfl, he⟩ := hrel
      have hcl := cnt_le (freeAt xs light) k
      by_cases hlt : k < 360
      · have C := Lib.hid (HC.out (wr.alloc (.cells #[.int .i64 (k : Int)] 3)) k (he.alloc _) hlt wr.heap.size (by simp [go_sem]))
        cases ha : xs.any (takes (k : Int) light)
        · have hs := Lib.hid (cnt_yes (p := freeAt xs light) (h := k) (by simp [freeAt, ha]))
          go_wp2_with (go_at_call 70; refine C.out.mono ?_; rintro e wb ⟨rfl, he1⟩)
          go_roundw
          case rel => exact ⟨k + 1, by omega, by go_num, by rw [hs.out]; go_num, (he.alloc _).trans he1⟩
          case measure => simp [intOf]; omega
        · have hs := Lib.hid (cnt_no (p := freeAt xs light) (h := k) (by simp [freeAt, ha]))
          go_wp2_with (go_at_call 70; refine C.out.mono ?_; rintro e wb ⟨rfl, he1⟩)
          go_roundw
          case rel => exact ⟨k + 1, by omega, by go_num, by rw [hs.out], (he.alloc _).trans he1⟩
          case measure => simp [intOf]; omega
      · obtain rfl : k = 360 := by omega
        go_wp2
        go_ret2
        exact ⟨ret_int_bool (by simp [freeR, freeOk, h1, h2]) (by simp [freeOk, h1, h2]), he0.trans he⟩
end Go.Proofs.Ytglgflfcelhffaa
