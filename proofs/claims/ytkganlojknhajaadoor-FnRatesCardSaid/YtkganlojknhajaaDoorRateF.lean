/- The rate of a letter. -/
import Derived.Test.YtkganlojknhajaaDoorRateX
import Derived.Test.YtkganlojknhajaaDoorFirst
namespace Go.Proofs.YtkganlojknhajaaDoor
open Go.RowKit
set_option linter.unusedVariables false
set_option linter.unusedSimpArgs false
attribute [local go_sem] ExtOf.cell

def fits (d z g : Int) (r : Rate) : Bool := (r.Zone == z) && (decide (g ≤ r.Grams) && inB d r.From r.Until)
def rateAt (xs : List Rate) (d z g : Int) : Int := ((xs.find? (fits d z g)).map Rate.Cents).getD 0
def hasRate (xs : List Rate) (d z g : Int) : Bool := xs.any (fits d z g)
theorem rateAt_hit {xs : List Rate} {d z g : Int} {k : Nat} {x : Rate} (h : noneTo (fits d z g) xs k) (hx : xs[k]? = some x) (hp : fits d z g x = true) : rateAt xs d z g = x.Cents := by
  simp [rateAt, find_hit h hx hp]
theorem rateAt_miss {xs : List Rate} {d z g : Int} {n : Nat} (hn : xs.length ≤ n) (h : noneTo (fits d z g) xs n) : rateAt xs d z g = 0 := by
  simp [rateAt, find_miss hn h]
theorem rateAt_pos {xs : List Rate} {d z g : Int} (h : RatesOk xs = true) : 0 ≤ rateAt xs d z g ∧ rateAt xs d z g ≤ 9999 ∧ decide (0 < rateAt xs d z g) = hasRate xs d z g := by
  unfold rateAt hasRate
  cases hf : xs.find? (fits d z g) with
  | none =>
    have : xs.any (fits d z g) = false := by
      rw [List.any_eq_false]; exact List.find?_eq_none.1 hf
    simp [this]
  | some r =>
    have hm := List.mem_of_find?_eq_some hf
    have hp := List.find?_some hf
    have : xs.any (fits d z g) = true := List.any_eq_true.2 ⟨r, hm, hp⟩
    obtain ⟨_, _, _, _, h1, h2⟩ := rtOk_all (show rtOk r.Zone r.Grams r.From r.Until r.Cents = true from RatesOk_good h r hm)
    simp [this]
    omega

set_option maxRecDepth 100000 in
set_option maxHeartbeats 1000000 in
theorem rateFor_any (A : Option Addr) (n c : Nat) (xs : List Rate) (d z g : Int) (w : World) (h : RateL w A n xs) :
    Calls Tryd.prog 33 #[.slice A n c, .int .i64 d, .int .i64 z, .int .i64 g] w fun e w' => e = .returned (.tuple #[.int .i64 (rateAt xs d z g), .bool (hasRate xs d z g)]) ∧ Ext w w' := by
  have hsm := h.small
  go_enter Tryd.func33, Tryd.ntmps33
  go_wp2
  go_loopw [14] (fun i wr => ∃ k : Nat, k ≤ n ∧ i = .int .i64 k ∧ noneTo (fits d z g) xs k ∧ Ext w wr) (fun i _ => n - (intOf i).toNat)
  case atStart => exact ⟨0, Nat.zero_le _, rfl, noneTo_zero _ _, Ext.refl _⟩
  case round =>
    obtain ⟨k, hk, rfl, hno, he⟩ := hrel
    have HN := Lib.hid hno
    clear hno
    by_cases hlt : k < n
    · obtain ⟨b, off, x, rfl, hb, hx, g0, g1, g2, g3, g4⟩ := (h.ext he).at_ hlt
      rcases chain3 (x.Zone == z) (decide (g ≤ x.Grams)) (inB d x.From x.Until) with h1 | ⟨h1, h2⟩ | ⟨h1, h2, h3⟩ | ⟨h1, h2, h3⟩
      · have hs := Lib.hid (noneTo_succ HN.out hx.out (by simp [fits, h1]))
        go_wp2_with (go_at_call 51; refine (inRange_any _ _ _ _).mono ?_; rintro e w' ⟨rfl, rfl⟩)
        go_roundw
        case rel => exact ⟨k + 1, by omega, by go_num, hs.out, he.alloc _⟩
        case measure => simp [intOf]; omega
      · have hs := Lib.hid (noneTo_succ HN.out hx.out (by simp [fits, h1, h2]))
        go_wp2_with (go_at_call 51; refine (inRange_any _ _ _ _).mono ?_; rintro e w' ⟨rfl, rfl⟩)
        go_roundw
        case rel => exact ⟨k + 1, by omega, by go_num, hs.out, he.alloc _⟩
        case measure => simp [intOf]; omega
      · have hs := Lib.hid (noneTo_succ HN.out hx.out (by simp [fits, h1, h2, h3]))
        go_wp2_with (go_at_call 51; refine (inRange_any _ _ _ _).mono ?_; rintro e w' ⟨rfl, rfl⟩)
        go_roundw
        case rel => exact ⟨k + 1, by omega, by go_num, hs.out, he.alloc _⟩
        case measure => simp [intOf]; omega
      · have ht : fits d z g x = true := by simp [fits, h1, h2, h3]
        have q1 := Lib.hid (rateAt_hit HN.out hx.out ht)
        have q2 := Lib.hid (any_hit hx.out ht)
        go_wp2_with (go_at_call 51; refine (inRange_any _ _ _ _).mono ?_; rintro e w' ⟨rfl, rfl⟩)
        go_ret2
        exact ⟨ret_int_bool q1.out.symm q2.out.symm, he.alloc _⟩
    · obtain rfl : n = k := by omega
      have h1 := Lib.hid (rateAt_miss (Nat.le_of_eq h.len) HN.out)
      have h2 := Lib.hid (any_of_none (Nat.le_of_eq h.len) HN.out)
      go_wp2
      go_ret2
      exact ⟨ret_int_bool h1.out.symm h2.out.symm, he⟩

set_option maxRecDepth 100000 in
set_option maxHeartbeats 1000000 in
theorem l8For_any (A : Option Addr) (n c : Nat) (xs : List Rate) (d z g : Int) (w : World) (h : RateL w A n xs) :
    Calls Tryd.prog 37 #[.slice A n c, .int .i64 d, .int .i64 z, .int .i64 g] w fun e w' => e = .returned (.int .i64 (rateAt xs d z g)) ∧ Ext w w' := by
  have hsm := h.small
  go_enter Tryd.func37, Tryd.ntmps37
  go_wp2
  go_loopw [9] (fun i wr => ∃ k : Nat, k ≤ n ∧ i = .int .i64 k ∧ noneTo (fits d z g) xs k ∧ Ext w wr) (fun i _ => n - (intOf i).toNat)
  case atStart => exact ⟨0, Nat.zero_le _, rfl, noneTo_zero _ _, Ext.refl _⟩
  case round =>
    obtain ⟨k, hk, rfl, hno, he⟩ := hrel
    have HN := Lib.hid hno
    clear hno
    by_cases hlt : k < n
    · obtain ⟨b, off, x, rfl, hb, hx, g0, g1, g2, g3, g4⟩ := (h.ext he).at_ hlt
      rcases chain3 (x.Zone == z) (decide (g ≤ x.Grams)) (inB d x.From x.Until) with h1 | ⟨h1, h2⟩ | ⟨h1, h2, h3⟩ | ⟨h1, h2, h3⟩
      · have hs := Lib.hid (noneTo_succ HN.out hx.out (by simp [fits, h1]))
        go_wp2_with (go_at_call 43; refine (l1In_any _ _ _ _).mono ?_; rintro e w' ⟨rfl, rfl⟩)
        go_roundw
        case rel => exact ⟨k + 1, by omega, by go_num, hs.out, he.alloc _⟩
        case measure => simp [intOf]; omega
      · have hs := Lib.hid (noneTo_succ HN.out hx.out (by simp [fits, h1, h2]))
        go_wp2_with (go_at_call 43; refine (l1In_any _ _ _ _).mono ?_; rintro e w' ⟨rfl, rfl⟩)
        go_roundw
        case rel => exact ⟨k + 1, by omega, by go_num, hs.out, he.alloc _⟩
        case measure => simp [intOf]; omega
      · have hs := Lib.hid (noneTo_succ HN.out hx.out (by simp [fits, h1, h2, h3]))
        go_wp2_with (go_at_call 43; refine (l1In_any _ _ _ _).mono ?_; rintro e w' ⟨rfl, rfl⟩)
        go_roundw
        case rel => exact ⟨k + 1, by omega, by go_num, hs.out, he.alloc _⟩
        case measure => simp [intOf]; omega
      · have ht : fits d z g x = true := by simp [fits, h1, h2, h3]
        have q1 := Lib.hid (rateAt_hit HN.out hx.out ht)
        go_wp2_with (go_at_call 43; refine (l1In_any _ _ _ _).mono ?_; rintro e w' ⟨rfl, rfl⟩)
        go_ret
        exact ⟨ret_int q1.out.symm, he.alloc _⟩
    · obtain rfl : n = k := by omega
      have h1 := Lib.hid (rateAt_miss (Nat.le_of_eq h.len) HN.out)
      go_wp2
      go_ret
      exact ⟨ret_int h1.out.symm, he⟩
end Go.Proofs.YtkganlojknhajaaDoor
