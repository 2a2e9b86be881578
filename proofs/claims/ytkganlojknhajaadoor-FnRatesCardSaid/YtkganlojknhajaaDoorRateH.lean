/- FirstWithout (made by wip/rates2.py). -/
import Derived.Test.YtkganlojknhajaaDoorRateF
namespace Go.Proofs.YtkganlojknhajaaDoor
open Go.RowKit
set_option linter.unusedVariables false
set_option linter.unusedSimpArgs false
attribute [local go_sem] ExtOf.cell

def askW (xs : List Rate) (z g f : Int) : Bool := RatesOk xs && (inB z 0 9 && (inB g 1 2000 && inB f 0 4000))
def freeP (xs : List Rate) (z g f : Int) (j : Nat) : Bool := decide (f ≤ (j : Int)) && !hasRate xs j z g
def freeAt (xs : List Rate) (z g f : Int) : Int := (((List.range 4001).find? (freeP xs z g f)).map Int.ofNat).getD 0
def freeAny (xs : List Rate) (z g f : Int) : Bool := (List.range 4001).any (freeP xs z g f)
def freeR (xs : List Rate) (z g f : Int) : Int := if askW xs z g f then freeAt xs z g f else 0
def freeOk (xs : List Rate) (z g f : Int) : Bool := askW xs z g f && freeAny xs z g f
theorem free_start {xs : List Rate} {z g : Int} (f : Nat) : noneTo (freeP xs z g f) (List.range 4001) f := by
  intro j hj
  rw [List.mem_take_iff_getElem] at hj
  obtain ⟨i, hi, e⟩ := hj
  simp only [List.getElem_range] at e
  subst e
  have : ¬ (f : Int) ≤ (i : Int) := by simp only [List.length_range] at hi; omega
  simp [freeP]
  omega
theorem range_at {k n : Nat} (h : k < n) : (List.range n)[k]? = some k := by simp [h]
theorem freeAt_hit {xs : List Rate} {z g f : Int} {k : Nat} (h : noneTo (freeP xs z g f) (List.range 4001) k) (hk : k ≤ 4000) (hp : freeP xs z g f k = true) : freeAt xs z g f = k ∧ freeAny xs z g f = true := by
  have hx : (List.range 4001)[k]? = some k := range_at (by omega)
  exact ⟨by simp [freeAt, find_hit h hx hp], any_hit hx hp⟩
theorem freeAt_miss {xs : List Rate} {z g f : Int} (h : noneTo (freeP xs z g f) (List.range 4001) 4001) : freeAt xs z g f = 0 ∧ freeAny xs z g f = false := by
  exact ⟨by simp [freeAt, find_miss (by simp) h], any_of_none (by simp) h⟩


set_option maxRecDepth 100000 in
set_option maxHeartbeats 1000000 in
theorem FirstWithoutI_any (A : Option Addr) (n c : Nat) (xs : List Rate) (z g f : Int) (w : World) (h : RateL w A n xs) :
    Calls Tryd.prog 20 #[.slice A n c, .int .i64 z, .int .i64 g, .int .i64 f] w fun e w' => e = .returned (.tuple #[.int .i64 (freeR xs z g f), .bool (freeOk xs z g f)]) ∧ Ext w w' := by
  have hsm := h.small
  rcases chain4 (RatesOk xs) (inB z 0 9) (inB g 1 2000) (inB f 0 4000) with h1 | ⟨h1, h2⟩ | ⟨h1, h2, h3⟩ | ⟨h1, h2, h3, h4⟩ | ⟨h1, h2, h3, h4⟩
  · go_enter Tryd.func20, Tryd.ntmps20
    go_wp2_with (first | (go_at_call 30; refine (areRates_any _ _ _ xs _ h).mono ?_; rintro e wa ⟨rfl, he1⟩; have hc1 := he1.cells) | (go_at_call 31; refine (isZone_any _ _).mono ?_; rintro e w' ⟨rfl, rfl⟩) | (go_at_call 32; refine (isWeight_any _ _).mono ?_; rintro e w' ⟨rfl, rfl⟩) | (go_at_call 38; refine (isDay_any _ _).mono ?_; rintro e w' ⟨rfl, rfl⟩))
    go_ret2
    exact ⟨ret_int_bool (by simp [freeR, askW, h1]) (by simp [freeOk, askW, h1]), he1⟩
  · go_enter Tryd.func20, Tryd.ntmps20
    go_wp2_with (first | (go_at_call 30; refine (areRates_any _ _ _ xs _ h).mono ?_; rintro e wa ⟨rfl, he1⟩; have hc1 := he1.cells) | (go_at_call 31; refine (isZone_any _ _).mono ?_; rintro e w' ⟨rfl, rfl⟩) | (go_at_call 32; refine (isWeight_any _ _).mono ?_; rintro e w' ⟨rfl, rfl⟩) | (go_at_call 38; refine (isDay_any _ _).mono ?_; rintro e w' ⟨rfl, rfl⟩))
    go_ret2
    exact ⟨ret_int_bool (by simp [freeR, askW, h1, h2]) (by simp [freeOk, askW, h1, h2]), he1⟩
  · go_enter Tryd.func20, Tryd.ntmps20
    go_wp2_with (first | (go_at_call 30; refine (areRates_any _ _ _ xs _ h).mono ?_; rintro e wa ⟨rfl, he1⟩; have hc1 := he1.cells) | (go_at_call 31; refine (isZone_any _ _).mono ?_; rintro e w' ⟨rfl, rfl⟩) | (go_at_call 32; refine (isWeight_any _ _).mono ?_; rintro e w' ⟨rfl, rfl⟩) | (go_at_call 38; refine (isDay_any _ _).mono ?_; rintro e w' ⟨rfl, rfl⟩))
    go_ret2
    exact ⟨ret_int_bool (by simp [freeR, askW, h1, h2, h3]) (by simp [freeOk, askW, h1, h2, h3]), he1⟩
  · go_enter Tryd.func20, Tryd.ntmps20
    go_wp2_with (first | (go_at_call 30; refine (areRates_any _ _ _ xs _ h).mono ?_; rintro e wa ⟨rfl, he1⟩; have hc1 := he1.cells) | (go_at_call 31; refine (isZone_any _ _).mono ?_; rintro e w' ⟨rfl, rfl⟩) | (go_at_call 32; refine (isWeight_any _ _).mono ?_; rintro e w' ⟨rfl, rfl⟩) | (go_at_call 38; refine (isDay_any _ _).mono ?_; rintro e w' ⟨rfl, rfl⟩))
    go_ret2
    exact ⟨ret_int_bool (by simp [freeR, askW, h1, h2, h3, h4]) (by simp [freeOk, askW, h1, h2, h3, h4]), he1⟩
  · obtain ⟨f, rfl⟩ : ∃ f' : Nat, f = f' := ⟨f.toNat, by have := inB_iff.1 h4; omega⟩
    obtain ⟨_, hf4⟩ := inB_iff.1 h4
    go_enter Tryd.func20, Tryd.ntmps20
    go_wp2_with (first | (go_at_call 30; refine (areRates_any _ _ _ xs _ h).mono ?_; rintro e wa ⟨rfl, he1⟩; have hc1 := he1.cells) | (go_at_call 31; refine (isZone_any _ _).mono ?_; rintro e w' ⟨rfl, rfl⟩) | (go_at_call 32; refine (isWeight_any _ _).mono ?_; rintro e w' ⟨rfl, rfl⟩) | (go_at_call 38; refine (isDay_any _ _).mono ?_; rintro e w' ⟨rfl, rfl⟩))
    go_loopw [10] (fun i wr => ∃ k : Nat, k ≤ 4001 ∧ i = .int .i64 k ∧ noneTo (freeP xs z g f) (List.range 4001) k ∧ (f : Int) ≤ k ∧ Ext w wr) (fun i _ => 4001 - (intOf i).toNat)
    case atStart => exact ⟨f, by omega, rfl, free_start f, by omega, he1⟩
    case round =>
      obtain ⟨k, hk, rfl, hno, hfk, he⟩ := hrel
      have HN := Lib.hid hno
      clear hno hc1
      by_cases hlt : k ≤ 4000
      · have C := Lib.hid (rateFor_any A n c xs (k : Int) z g wr (h.ext he))
        cases ht : hasRate xs (k : Int) z g
        · obtain ⟨q1, q2⟩ := freeAt_hit HN.out hlt (by simp [freeP, ht]; omega)
          have Q1 := Lib.hid q1
          have Q2 := Lib.hid q2
          clear q1 q2
          go_wp2_with (go_at_call 33; refine C.out.mono ?_; rintro e wb ⟨rfl, he2⟩; (try rw [ht]))
          go_ret2
          exact ⟨ret_int_bool (by rw [freeR, Q1.out]; simp [askW, h1, h2, h3, h4]) (by rw [freeOk, Q2.out]; simp [askW, h1, h2, h3, h4]), he.trans he2⟩
        · have hs := Lib.hid (noneTo_succ HN.out (range_at (show k < 4001 by omega)) (by simp [freeP, ht]))
          go_wp2_with (go_at_call 33; refine C.out.mono ?_; rintro e wb ⟨rfl, he2⟩; (try rw [ht]))
          go_roundw
          case rel => exact ⟨k + 1, by omega, by go_num, hs.out, by omega, he.trans he2⟩
          case measure => simp [intOf]; omega
      · obtain rfl : k = 4001 := by omega
        obtain ⟨q1, q2⟩ := freeAt_miss HN.out
        have Q1 := Lib.hid q1
        have Q2 := Lib.hid q2
        clear q1 q2
        go_wp2
        go_ret2
        exact ⟨ret_int_bool (by rw [freeR, Q1.out]; simp) (by rw [freeOk, Q2.out]; simp), he⟩

set_option maxRecDepth 100000 in
set_option maxHeartbeats 1000000 in
theorem FirstWithoutS_any (A : Option Addr) (n c : Nat) (xs : List Rate) (z g f : Int) (w : World) (h : RateL w A n xs) :
    Calls Tryd.prog 21 #[.slice A n c, .int .i64 z, .int .i64 g, .int .i64 f] w fun e w' => e = .returned (.tuple #[.int .i64 (freeR xs z g f), .bool (freeOk xs z g f)]) ∧ Ext w w' := by
  have hsm := h.small
  rcases chain4 (RatesOk xs) (inB z 0 9) (inB g 1 2000) (inB f 0 4000) with h1 | ⟨h1, h2⟩ | ⟨h1, h2, h3⟩ | ⟨h1, h2, h3, h4⟩ | ⟨h1, h2, h3, h4⟩
  · go_enter Tryd.func21, Tryd.ntmps21
    go_wp2_with (first | (go_at_call 34; refine (l8Good_any _ _ _ xs _ h).mono ?_; rintro e wa ⟨rfl, he1⟩; have hc1 := he1.cells) | (go_at_call 35; refine (l8Zone_any _ _).mono ?_; rintro e w' ⟨rfl, rfl⟩) | (go_at_call 36; refine (l8Grams_any _ _).mono ?_; rintro e w' ⟨rfl, rfl⟩) | (go_at_call 40; refine (l2Day_any _ _).mono ?_; rintro e w' ⟨rfl, rfl⟩))
    go_ret2
    exact ⟨ret_int_bool (by simp [freeR, askW, h1]) (by simp [freeOk, askW, h1]), he1⟩
  · go_enter Tryd.func21, Tryd.ntmps21
    go_wp2_with (first | (go_at_call 34; refine (l8Good_any _ _ _ xs _ h).mono ?_; rintro e wa ⟨rfl, he1⟩; have hc1 := he1.cells) | (go_at_call 35; refine (l8Zone_any _ _).mono ?_; rintro e w' ⟨rfl, rfl⟩) | (go_at_call 36; refine (l8Grams_any _ _).mono ?_; rintro e w' ⟨rfl, rfl⟩) | (go_at_call 40; refine (l2Day_any _ _).mono ?_; rintro e w' ⟨rfl, rfl⟩))
    go_ret2
    exact ⟨ret_int_bool (by simp [freeR, askW, h1, h2]) (by simp [freeOk, askW, h1, h2]), he1⟩
  · go_enter Tryd.func21, Tryd.ntmps21
    go_wp2_with (first | (go_at_call 34; refine (l8Good_any _ _ _ xs _ h).mono ?_; rintro e wa ⟨rfl, he1⟩; have hc1 := he1.cells) | (go_at_call 35; refine (l8Zone_any _ _).mono ?_; rintro e w' ⟨rfl, rfl⟩) | (go_at_call 36; refine (l8Grams_any _ _).mono ?_; rintro e w' ⟨rfl, rfl⟩) | (go_at_call 40; refine (l2Day_any _ _).mono ?_; rintro e w' ⟨rfl, rfl⟩))
    go_ret2
    exact ⟨ret_int_bool (by simp [freeR, askW, h1, h2, h3]) (by simp [freeOk, askW, h1, h2, h3]), he1⟩
  · go_enter Tryd.func21, Tryd.ntmps21
    go_wp2_with (first | (go_at_call 34; refine (l8Good_any _ _ _ xs _ h).mono ?_; rintro e wa ⟨rfl, he1⟩; have hc1 := he1.cells) | (go_at_call 35; refine (l8Zone_any _ _).mono ?_; rintro e w' ⟨rfl, rfl⟩) | (go_at_call 36; refine (l8Grams_any _ _).mono ?_; rintro e w' ⟨rfl, rfl⟩) | (go_at_call 40; refine (l2Day_any _ _).mono ?_; rintro e w' ⟨rfl, rfl⟩))
    go_ret2
    exact ⟨ret_int_bool (by simp [freeR, askW, h1, h2, h3, h4]) (by simp [freeOk, askW, h1, h2, h3, h4]), he1⟩
  · obtain ⟨f, rfl⟩ : ∃ f' : Nat, f = f' := ⟨f.toNat, by have := inB_iff.1 h4; omega⟩
    obtain ⟨_, hf4⟩ := inB_iff.1 h4
    go_enter Tryd.func21, Tryd.ntmps21
    go_wp2_with (first | (go_at_call 34; refine (l8Good_any _ _ _ xs _ h).mono ?_; rintro e wa ⟨rfl, he1⟩; have hc1 := he1.cells) | (go_at_call 35; refine (l8Zone_any _ _).mono ?_; rintro e w' ⟨rfl, rfl⟩) | (go_at_call 36; refine (l8Grams_any _ _).mono ?_; rintro e w' ⟨rfl, rfl⟩) | (go_at_call 40; refine (l2Day_any _ _).mono ?_; rintro e w' ⟨rfl, rfl⟩))
    go_loopw [10] (fun i wr => ∃ k : Nat, k ≤ 4001 ∧ i = .int .i64 k ∧ noneTo (freeP xs z g f) (List.range 4001) k ∧ (f : Int) ≤ k ∧ Ext w wr) (fun i _ => 4001 - (intOf i).toNat)
    case atStart => exact ⟨f, by omega, rfl, free_start f, by omega, he1⟩
    case round =>
      obtain ⟨k, hk, rfl, hno, hfk, he⟩ := hrel
      have HN := Lib.hid hno
      clear hno hc1
      by_cases hlt : k ≤ 4000
      · have C := Lib.hid (l8For_any A n c xs (k : Int) z g wr (h.ext he))
        cases ht : hasRate xs (k : Int) z g
        · obtain ⟨q1, q2⟩ := freeAt_hit HN.out hlt (by simp [freeP, ht]; omega)
          have Q1 := Lib.hid q1
          have Q2 := Lib.hid q2
          clear q1 q2
          obtain ⟨_, _, hp⟩ := rateAt_pos (d := (k : Int)) (z := z) (g := g) h1
          obtain ⟨hp0, _, _⟩ := rateAt_pos (d := (k : Int)) (z := z) (g := g) h1
          rw [ht] at hp
          have he0 : (rateAt xs (k : Int) z g == 0) = true := by (simp at hp ⊢; omega)
          have he1' : decide (rateAt xs (k : Int) z g = 0) = true := by (simp at hp ⊢; omega)
          clear hp
          go_wp2_with (go_at_call 37; refine C.out.mono ?_; rintro e wb ⟨rfl, he2⟩; (try rw [ht]))
          go_ret2
          exact ⟨ret_int_bool (by rw [freeR, Q1.out]; simp [askW, h1, h2, h3, h4]) (by rw [freeOk, Q2.out]; simp [askW, h1, h2, h3, h4]), he.trans he2⟩
        · have hs := Lib.hid (noneTo_succ HN.out (range_at (show k < 4001 by omega)) (by simp [freeP, ht]))
          obtain ⟨_, _, hp⟩ := rateAt_pos (d := (k : Int)) (z := z) (g := g) h1
          obtain ⟨hp0, _, _⟩ := rateAt_pos (d := (k : Int)) (z := z) (g := g) h1
          rw [ht] at hp
          have he0 : (rateAt xs (k : Int) z g == 0) = false := by (simp at hp ⊢; omega)
          have he1' : decide (rateAt xs (k : Int) z g = 0) = false := by (simp at hp ⊢; omega)
          clear hp
          go_wp2_with (go_at_call 37; refine C.out.mono ?_; rintro e wb ⟨rfl, he2⟩; (try rw [ht]))
          go_roundw
          case rel => exact ⟨k + 1, by omega, by go_num, hs.out, by omega, he.trans he2⟩
          case measure => simp [intOf]; omega
      · obtain rfl : k = 4001 := by omega
        obtain ⟨q1, q2⟩ := freeAt_miss HN.out
        have Q1 := Lib.hid q1
        have Q2 := Lib.hid q2
        clear q1 q2
        go_wp2
        go_ret2
        exact ⟨ret_int_bool (by rw [freeR, Q1.out]; simp) (by rw [freeOk, Q2.out]; simp), he⟩
end Go.Proofs.YtkganlojknhajaaDoor
