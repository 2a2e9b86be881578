/- Valid lists of rates. -/
import Derived.Test.YtkganlojknhajaaDoorRateL
import Derived.Test.YtkganlojknhajaaDoorAdj
import Derived.Test.YtkganlojknhajaaDoorCmp
import Derived.Test.YtkganlojknhajaaDoorTail
namespace Go.Proofs.YtkganlojknhajaaDoor
open Go.RowKit
set_option linter.unusedVariables false
set_option linter.unusedSimpArgs false
attribute [local go_sem] ExtOf.cell

def RateGood (x : Rate) : Bool := rtOk x.Zone x.Grams x.From x.Until x.Cents
def RateP (q : Option Rate) (x : Rate) : Bool := RateGood x && (match q with
  | none => true
  | some y => decide (y.Zone < x.Zone) || (decide (y.Zone = x.Zone) && (decide (y.Grams < x.Grams) || (decide (y.Grams = x.Grams) && decide (y.Until < x.From)))))
def RatesOk (xs : List Rate) : Bool := adj RateP none xs && decide (xs.length ≤ 16)
theorem RatesOk_bad {xs : List Rate} {k : Nat} {x : Rate} (hx : xs[k]? = some x) (hp : RateP (before xs k) x = false) : RatesOk xs = false := by
  simp [RatesOk, adj_bad hx hp]
theorem RatesOk_end {xs : List Rate} {n : Nat} (hn : xs.length = n) (h : adjTo RateP xs n) : RatesOk xs = decide ((n : Int) ≤ 16) := by
  subst hn
  simp only [RatesOk, adj_end h, Bool.true_and]
  rw [Bool.eq_iff_iff]; simp; omega
theorem RatesOk_good {xs : List Rate} (h : RatesOk xs = true) : ∀ x ∈ xs, RateGood x = true := by
  simp only [RatesOk, Bool.and_eq_true] at h
  exact adj_all (fun q x hp => by simp only [RateP, Bool.and_eq_true] at hp; exact hp.1) h.1
theorem RatesOk_len {xs : List Rate} (h : RatesOk xs = true) : xs.length ≤ 16 := by
  simp only [RatesOk, Bool.and_eq_true, decide_eq_true_eq] at h
  exact h.2
theorem RateP_at {xs : List Rate} {k j : Nat} {y : Rate} (h : adjTo RateP xs k) (hj : j < k) (hy : xs[j]? = some y) : RateGood y = true := by
  have hm : y ∈ xs.take k := by
    rw [List.mem_iff_getElem?]; exact ⟨j, by rw [List.getElem?_take, if_pos hj, hy]⟩
  exact adj_all (p := RateP) (fun q x hp => by simp only [RateP, Bool.and_eq_true] at hp; exact hp.1) h y hm


def rateLess (y x : Rate) : Bool := decide (y.Zone < x.Zone) || (decide (y.Zone = x.Zone) && (decide (y.Grams < x.Grams) || (decide (y.Grams = x.Grams) && decide (y.Until < x.From))))
theorem RateP_pos {xs : List Rate} {k : Nat} {x y : Rate} (h : 0 < k) (hy : xs[k - 1]? = some y) : RateP (before xs k) x = (RateGood x && rateLess y x) := by
  rw [before_pos h hy]; rfl
theorem rateLess_or (y x : Rate) : rateLess y x = !(decide (0 < orI [cmpI y.Zone x.Zone, cmpI y.Grams x.Grams]) || (orI [cmpI y.Zone x.Zone, cmpI y.Grams x.Grams] == 0 && decide (x.From ≤ y.Until))) := by
  unfold rateLess
  have z1 : ∀ a : Int, cmpI a a = 0 := fun a => cmpI_of_eq rfl
  rcases Int.lt_trichotomy y.Zone x.Zone with h1 | h1 | h1
  · simp [orI, cmpI_of_lt h1, h1]
  · rcases Int.lt_trichotomy y.Grams x.Grams with h2 | h2 | h2
    · simp [orI, z1, cmpI_of_lt h2, h1, h2]
    · rw [Bool.eq_iff_iff]
      simp [orI, z1, h1, h2]
    · have h3 : ¬ y.Grams < x.Grams := by omega
      have h4 : ¬ y.Grams = x.Grams := by omega
      simp [orI, z1, cmpI_of_gt h2, h1, h3, h4]
  · have h3 : ¬ y.Zone < x.Zone := by omega
    have h4 : ¬ y.Zone = x.Zone := by omega
    simp [orI, cmpI_of_gt h1, h3, h4]


set_option maxRecDepth 100000 in
set_option maxHeartbeats 1000000 in
theorem areRates_any (A : Option Addr) (n c : Nat) (xs : List Rate) (w : World) (h : RateL w A n xs) :
    Calls Tryd.prog 30 #[.slice A n c] w fun e w' => e = .returned (.bool (RatesOk xs)) ∧ Ext w w' := by
  have hsm := h.small
  go_enter Tryd.func30, Tryd.ntmps30
  go_wp2
  go_loopw [9] (fun i wr => ∃ k : Nat, k ≤ n ∧ i = .int .i64 k ∧ adjTo RateP xs k ∧ Ext w wr) (fun i _ => n - (intOf i).toNat)
  case atStart => exact ⟨0, Nat.zero_le _, rfl, adjTo_zero _ _, Ext.refl _⟩
  case round =>
    obtain ⟨k, hk, rfl, ha, he⟩ := hrel
    have HA := Lib.hid ha
    clear ha
    by_cases hlt : k < n
    · obtain ⟨b, off, x, rfl, hb, hx, g0, g1, g2, g3, g4⟩ := (h.ext he).at_ hlt
      cases hs : rtOk x.Zone x.Grams x.From x.Until x.Cents
      · have hbad := Lib.hid (RatesOk_bad hx.out (by simp [RateP, RateGood, hs]))
        go_wp2_with (go_at_call 26; refine (isRate_any _ _ _ _ _ _).mono ?_; rintro e wa ⟨rfl, he1⟩; have hc1 := he1.cells)
        go_ret
        exact ⟨ret_bool hbad.out.symm, (he.alloc _).trans he1⟩
      · rcases Nat.eq_zero_or_pos k with hk0 | hpos
        · have hgood := Lib.hid (adjTo_succ HA.out hx.out (by simp [RateP, RateGood, hs, hk0, before_zero]))
          have hd : decide ((k : Int) = 0) = true := by simp; omega
          have hd2 : ((k : Int) == 0) = true := by simp; omega
          have hd3 : (k == 0) = true := by simp; omega
          clear hk0
          go_wp2_with (go_at_call 26; refine (isRate_any _ _ _ _ _ _).mono ?_; rintro e wa ⟨rfl, he1⟩; have hc1 := he1.cells)
          go_roundw
          case rel => exact ⟨k + 1, by omega, by go_num, hgood.out, (he.alloc _).trans he1⟩
          case measure => simp [intOf]; omega
        · obtain ⟨b', off', y, eA, hb', hy, q0, q1, q2, q3, q4⟩ := (h.ext he).at_ (show k - 1 < n by omega)
          injection eA with eA
          injection eA with e1 e2
          subst e1; subst e2
          have hd : decide ((k : Int) = 0) = false := by simp; omega
          have hd2 : ((k : Int) == 0) = false := by simp; omega
          have hP := RateP_pos (x := x) hpos hy.out
          rw [rateLess_or, show RateGood x = true from hs, Bool.true_and] at hP
          generalize hor : orI [cmpI y.Zone x.Zone, cmpI y.Grams x.Grams] = od at hP
          have HO := Lib.hid hor
          clear hor
          rcases (show 0 < od ∨ od < 0 ∨ od = 0 by omega) with ho | ho | ho
          · have hbad := Lib.hid (RatesOk_bad hx.out (by rw [hP]; simp [ho]))
            have hd3 : decide (0 < od) = true := by simpa using ho
            go_wp2_with (go_at_call 26; refine (isRate_any _ _ _ _ _ _).mono ?_; rintro e wa ⟨rfl, he1⟩; have hc1 := he1.cells; have hz1 : wr.heap.size < wa.heap.size := (by have h := he1.size; (try simp only [World.size_alloc] at h); omega))
            (refine wp_region_ext_tail 10 (by kernel_rfl) (by kernel_rfl) ?_; simp only [List.take_succ_cons, List.take_zero, List.drop_succ_cons, List.drop_zero]; (repeat (go_big_quiet_step (((go_at_call 50; exact ext_call_same (Compare_any _ _ _)))))); refine wpQuiet_nil ?_; rintro wq ⟨⟨_, heq⟩, rfl⟩; (try dsimp only))
            have hc3 := heq.cells
            have hz3 : wa.heap.size < wq.heap.size := (by have h := heq.size; (try simp only [World.size_alloc] at h); omega)
            have hz4 : wr.heap.size < wq.heap.size := (by omega)
            go_wp2_with (go_at_call 49; refine (Or2_any _ _ _ _).mono ?_; rintro e wc ⟨hev, rfl⟩; rw [HO.out] at hev; subst hev)
            go_ret
            exact ⟨ret_bool hbad.out.symm, ((((he.alloc _).trans he1).alloc _).trans heq).alloc _⟩
          · have hgood := Lib.hid (adjTo_succ HA.out hx.out (by rw [hP]; simp; omega))
            have hd3 : decide (0 < od) = false := by simp; omega
            have hd4 : (od == 0) = false := by simp; omega
            clear hP
            go_wp2_with (go_at_call 26; refine (isRate_any _ _ _ _ _ _).mono ?_; rintro e wa ⟨rfl, he1⟩; have hc1 := he1.cells; have hz1 : wr.heap.size < wa.heap.size := (by have h := he1.size; (try simp only [World.size_alloc] at h); omega))
            (refine wp_region_ext_tail 10 (by kernel_rfl) (by kernel_rfl) ?_; simp only [List.take_succ_cons, List.take_zero, List.drop_succ_cons, List.drop_zero]; (repeat (go_big_quiet_step (((go_at_call 50; exact ext_call_same (Compare_any _ _ _)))))); refine wpQuiet_nil ?_; rintro wq ⟨⟨_, heq⟩, rfl⟩; (try dsimp only))
            have hc3 := heq.cells
            have hz3 : wa.heap.size < wq.heap.size := (by have h := heq.size; (try simp only [World.size_alloc] at h); omega)
            have hz4 : wr.heap.size < wq.heap.size := (by omega)
            go_wp2_with (go_at_call 49; refine (Or2_any _ _ _ _).mono ?_; rintro e wc ⟨hev, rfl⟩; rw [HO.out] at hev; subst hev)
            go_roundw
            case rel => exact ⟨k + 1, by omega, by go_num, hgood.out, ((((he.alloc _).trans he1).alloc _).trans heq).alloc _⟩
            case measure => simp [intOf]; omega
          · subst ho
            cases hl : decide (x.From ≤ y.Until)
            · have hgood := Lib.hid (adjTo_succ HA.out hx.out (by rw [hP]; simp [hl]))
              clear hP
              go_wp2_with (go_at_call 26; refine (isRate_any _ _ _ _ _ _).mono ?_; rintro e wa ⟨rfl, he1⟩; have hc1 := he1.cells; have hz1 : wr.heap.size < wa.heap.size := (by have h := he1.size; (try simp only [World.size_alloc] at h); omega))
              (refine wp_region_ext_tail 10 (by kernel_rfl) (by kernel_rfl) ?_; simp only [List.take_succ_cons, List.take_zero, List.drop_succ_cons, List.drop_zero]; (repeat (go_big_quiet_step (((go_at_call 50; exact ext_call_same (Compare_any _ _ _)))))); refine wpQuiet_nil ?_; rintro wq ⟨⟨_, heq⟩, rfl⟩; (try dsimp only))
              have hc3 := heq.cells
              have hz3 : wa.heap.size < wq.heap.size := (by have h := heq.size; (try simp only [World.size_alloc] at h); omega)
              have hz4 : wr.heap.size < wq.heap.size := (by omega)
              go_wp2_with (go_at_call 49; refine (Or2_any _ _ _ _).mono ?_; rintro e wc ⟨hev, rfl⟩; rw [HO.out] at hev; subst hev)
              go_roundw
              case rel => exact ⟨k + 1, by omega, by go_num, hgood.out, ((((he.alloc _).trans he1).alloc _).trans heq).alloc _⟩
              case measure => simp [intOf]; omega
            · have hbad := Lib.hid (RatesOk_bad hx.out (by rw [hP]; simp [hl]))
              clear hP
              go_wp2_with (go_at_call 26; refine (isRate_any _ _ _ _ _ _).mono ?_; rintro e wa ⟨rfl, he1⟩; have hc1 := he1.cells; have hz1 : wr.heap.size < wa.heap.size := (by have h := he1.size; (try simp only [World.size_alloc] at h); omega))
              (refine wp_region_ext_tail 10 (by kernel_rfl) (by kernel_rfl) ?_; simp only [List.take_succ_cons, List.take_zero, List.drop_succ_cons, List.drop_zero]; (repeat (go_big_quiet_step (((go_at_call 50; exact ext_call_same (Compare_any _ _ _)))))); refine wpQuiet_nil ?_; rintro wq ⟨⟨_, heq⟩, rfl⟩; (try dsimp only))
              have hc3 := heq.cells
              have hz3 : wa.heap.size < wq.heap.size := (by have h := heq.size; (try simp only [World.size_alloc] at h); omega)
              have hz4 : wr.heap.size < wq.heap.size := (by omega)
              go_wp2_with (go_at_call 49; refine (Or2_any _ _ _ _).mono ?_; rintro e wc ⟨hev, rfl⟩; rw [HO.out] at hev; subst hev)
              go_ret
              exact ⟨ret_bool hbad.out.symm, ((((he.alloc _).trans he1).alloc _).trans heq).alloc _⟩
    · obtain rfl : n = k := by omega
      have hend := Lib.hid (RatesOk_end h.len HA.out)
      go_wp2
      go_ret
      exact ⟨ret_bool hend.out.symm, he⟩

end Go.Proofs.YtkganlojknhajaaDoor
