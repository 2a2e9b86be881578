/- Valid lists of covers (made by wip/lists.py). -/
import Derived.Test.YtopjomkjdmcljaaCoverL
import Derived.Test.YtopjomkjdmcljaaAdj
namespace Go.Proofs.Ytopjomkjdmcljaa
open Go.RowKit
set_option linter.unusedVariables false
set_option linter.unusedSimpArgs false
attribute [local go_sem] ExtOf.cell

def CoverGood (x : Cover) : Bool := cvOk x.Id x.Day x.Zone x.Grams x.Paid x.From x.To x.Leave x.Arrive
def CoverP (q : Option Cover) (x : Cover) : Bool := CoverGood x && (match q with
  | none => true
  | some y => decide (y.Id < x.Id))
def CoversOk (xs : List Cover) : Bool := adj CoverP none xs && decide (xs.length ≤ 10)
theorem CoversOk_bad {xs : List Cover} {k : Nat} {x : Cover} (hx : xs[k]? = some x) (hp : CoverP (before xs k) x = false) : CoversOk xs = false := by
  simp [CoversOk, adj_bad hx hp]
theorem CoversOk_end {xs : List Cover} {n : Nat} (hn : xs.length = n) (h : adjTo CoverP xs n) : CoversOk xs = decide ((n : Int) ≤ 10) := by
  subst hn
  simp only [CoversOk, adj_end h, Bool.true_and]
  rw [Bool.eq_iff_iff]; simp; omega
theorem CoversOk_good {xs : List Cover} (h : CoversOk xs = true) : ∀ x ∈ xs, CoverGood x = true := by
  simp only [CoversOk, Bool.and_eq_true] at h
  exact adj_all (fun q x hp => by simp only [CoverP, Bool.and_eq_true] at hp; exact hp.1) h.1
theorem CoversOk_len {xs : List Cover} (h : CoversOk xs = true) : xs.length ≤ 10 := by
  simp only [CoversOk, Bool.and_eq_true, decide_eq_true_eq] at h
  exact h.2
theorem CoverP_at {xs : List Cover} {k j : Nat} {y : Cover} (h : adjTo CoverP xs k) (hj : j < k) (hy : xs[j]? = some y) : CoverGood y = true := by
  have hm : y ∈ xs.take k := by
    rw [List.mem_iff_getElem?]; exact ⟨j, by rw [List.getElem?_take, if_pos hj, hy]⟩
  exact adj_all (p := CoverP) (fun q x hp => by simp only [CoverP, Bool.and_eq_true] at hp; exact hp.1) h y hm


set_option maxRecDepth 100000 in
set_option maxHeartbeats 1000000 in
theorem areCovers_any (A : Option Addr) (n c : Nat) (xs : List Cover) (w : World) (h : CoverL w A n xs) :
    Calls Try.prog 47 #[.slice A n c] w fun e w' => e = .returned (.bool (CoversOk xs)) ∧ Ext w w' := by
  have hsm := h.small
  go_enter Try.func47, Try.ntmps47
  go_wp2
  go_loopw [7] (fun i wr => ∃ k : Nat, k ≤ n ∧ i = .int .i64 k ∧ adjTo CoverP xs k ∧ Ext w wr) (fun i _ => n - (intOf i).toNat)
  case atStart => exact ⟨0, Nat.zero_le _, rfl, adjTo_zero _ _, Ext.refl _⟩
  case round =>
    obtain ⟨k, hk, rfl, ha, he⟩ := hrel
    have HA := Lib.hid ha
    clear ha
    by_cases hlt : k < n
    · obtain ⟨b, off, x, rfl, hb, hx, g0, g1, g2, g3, g4, g5, g6, g7, g8⟩ := (h.ext he).at_ hlt
      cases hs : cvOk x.Id x.Day x.Zone x.Grams x.Paid x.From x.To x.Leave x.Arrive
      · have hbad := Lib.hid (CoversOk_bad hx.out (by simp [CoverP, CoverGood, hs]))
        go_wp2
        (refine wp_region_ext_lit (by kernel_rfl) (by kernel_rfl) ?_; (repeat (go_big_quiet_step (((go_at_call 45; exact ext_call (isCover_any _ _ _ _ _ _ _ _ _ _)))))); refine wpQuiet_nil ?_; rintro wq ⟨⟨_, heq⟩, rfl⟩; (try dsimp only))
        go_wp2
        go_ret
        exact ⟨ret_bool hbad.out.symm, he.trans (((Ext.refl _).alloc _).trans heq)⟩
      · rcases Nat.eq_zero_or_pos k with hk0 | hpos
        · have hgood := Lib.hid (adjTo_succ HA.out hx.out (by simp [CoverP, CoverGood, hs, hk0, before_zero]))
          have hd : decide (0 < (k : Int)) = false := by simp; omega
          have hd2 : decide (0 < k) = false := by simp; omega
          clear hk0
          go_wp2
          (refine wp_region_ext_lit (by kernel_rfl) (by kernel_rfl) ?_; (repeat (go_big_quiet_step (((go_at_call 45; exact ext_call (isCover_any _ _ _ _ _ _ _ _ _ _)))))); refine wpQuiet_nil ?_; rintro wq ⟨⟨_, heq⟩, rfl⟩; (try dsimp only))
          go_wp2
          go_roundw
          case rel => exact ⟨k + 1, by omega, by go_num, hgood.out, he.trans (((Ext.refl _).alloc _).trans heq)⟩
          case measure => simp [intOf]; omega
        · obtain ⟨b', off', y, eA, hb', hy, q0, q1, q2, q3, q4, q5, q6, q7, q8⟩ := (h.ext he).at_ (show k - 1 < n by omega)
          injection eA with eA
          injection eA with e1 e2
          subst e1; subst e2
          have hd : decide (0 < (k : Int)) = true := by simp; omega
          have hd2 : decide (0 < k) = true := by simp; omega
          cases hl : decide (x.Id ≤ y.Id)
          · have hgood := Lib.hid (adjTo_succ HA.out hx.out (by simp [CoverP, CoverGood, hs, before_pos hpos hy.out]; simpa using hl))
            go_wp2
            (refine wp_region_ext_lit (by kernel_rfl) (by kernel_rfl) ?_; (repeat (go_big_quiet_step (((go_at_call 45; exact ext_call (isCover_any _ _ _ _ _ _ _ _ _ _)))))); refine wpQuiet_nil ?_; rintro wq ⟨⟨_, heq⟩, rfl⟩; (try dsimp only))
            go_wp2
            go_roundw
            case rel => exact ⟨k + 1, by omega, by go_num, hgood.out, he.trans (((Ext.refl _).alloc _).trans heq)⟩
            case measure => simp [intOf]; omega
          · have hbad := Lib.hid (CoversOk_bad hx.out (by simp [CoverP, CoverGood, hs, before_pos hpos hy.out]; simpa using hl))
            go_wp2
            (refine wp_region_ext_lit (by kernel_rfl) (by kernel_rfl) ?_; (repeat (go_big_quiet_step (((go_at_call 45; exact ext_call (isCover_any _ _ _ _ _ _ _ _ _ _)))))); refine wpQuiet_nil ?_; rintro wq ⟨⟨_, heq⟩, rfl⟩; (try dsimp only))
            go_wp2
            go_ret
            exact ⟨ret_bool hbad.out.symm, he.trans (((Ext.refl _).alloc _).trans heq)⟩
    · obtain rfl : n = k := by omega
      have hend := Lib.hid (CoversOk_end h.len HA.out)
      go_wp2
      go_ret
      exact ⟨ret_bool hend.out.symm, he⟩


set_option maxRecDepth 100000 in
set_option maxHeartbeats 1000000 in
theorem l10Good_any (A : Option Addr) (n c : Nat) (xs : List Cover) (w : World) (h : CoverL w A n xs) :
    Calls Try.prog 46 #[.slice A n c] w fun e w' => e = .returned (.bool (CoversOk xs)) ∧ Ext w w' := by
  have hsm := h.small
  go_enter Try.func46, Try.ntmps46
  go_wp2
  go_loopw [3] (fun i wr => ∃ k : Nat, k ≤ n ∧ i = .int .i64 k ∧ adjTo CoverP xs k ∧ Ext w wr) (fun i _ => n - (intOf i).toNat)
  case atStart => exact ⟨0, Nat.zero_le _, rfl, adjTo_zero _ _, Ext.refl _⟩
  case round =>
    obtain ⟨k, hk, rfl, ha, he⟩ := hrel
    have HA := Lib.hid ha
    clear ha
    by_cases hlt : k < n
    · obtain ⟨b, off, x, rfl, hb, hx, g0, g1, g2, g3, g4, g5, g6, g7, g8⟩ := (h.ext he).at_ hlt
      cases hs : cvOk x.Id x.Day x.Zone x.Grams x.Paid x.From x.To x.Leave x.Arrive
      · have hbad := Lib.hid (CoversOk_bad hx.out (by simp [CoverP, CoverGood, hs]))
        go_wp2
        (refine wp_region_ext_lit (by kernel_rfl) (by kernel_rfl) ?_; (repeat (go_big_quiet_step (((go_at_call 44; exact ext_call (l10One_any _ _ _ _ _ _ _ _ _ _)))))); refine wpQuiet_nil ?_; rintro wq ⟨⟨_, heq⟩, rfl⟩; (try dsimp only))
        go_wp2
        go_ret
        exact ⟨ret_bool hbad.out.symm, he.trans heq⟩
      · rcases Nat.eq_zero_or_pos k with hk0 | hpos
        · have hgood := Lib.hid (adjTo_succ HA.out hx.out (by simp [CoverP, CoverGood, hs, hk0, before_zero]))
          have hd : decide (0 < (k : Int)) = false := by simp; omega
          have hd2 : decide (0 < k) = false := by simp; omega
          clear hk0
          go_wp2
          (refine wp_region_ext_lit (by kernel_rfl) (by kernel_rfl) ?_; (repeat (go_big_quiet_step (((go_at_call 44; exact ext_call (l10One_any _ _ _ _ _ _ _ _ _ _)))))); refine wpQuiet_nil ?_; rintro wq ⟨⟨_, heq⟩, rfl⟩; (try dsimp only))
          go_wp2
          go_roundw
          case rel => exact ⟨k + 1, by omega, by go_num, hgood.out, he.trans heq⟩
          case measure => simp [intOf]; omega
        · obtain ⟨b', off', y, eA, hb', hy, q0, q1, q2, q3, q4, q5, q6, q7, q8⟩ := (h.ext he).at_ (show k - 1 < n by omega)
          injection eA with eA
          injection eA with e1 e2
          subst e1; subst e2
          have hd : decide (0 < (k : Int)) = true := by simp; omega
          have hd2 : decide (0 < k) = true := by simp; omega
          cases hl : decide (x.Id ≤ y.Id)
          · have hgood := Lib.hid (adjTo_succ HA.out hx.out (by simp [CoverP, CoverGood, hs, before_pos hpos hy.out]; simpa using hl))
            go_wp2
            (refine wp_region_ext_lit (by kernel_rfl) (by kernel_rfl) ?_; (repeat (go_big_quiet_step (((go_at_call 44; exact ext_call (l10One_any _ _ _ _ _ _ _ _ _ _)))))); refine wpQuiet_nil ?_; rintro wq ⟨⟨_, heq⟩, rfl⟩; (try dsimp only))
            go_wp2
            go_roundw
            case rel => exact ⟨k + 1, by omega, by go_num, hgood.out, he.trans heq⟩
            case measure => simp [intOf]; omega
          · have hbad := Lib.hid (CoversOk_bad hx.out (by simp [CoverP, CoverGood, hs, before_pos hpos hy.out]; simpa using hl))
            go_wp2
            (refine wp_region_ext_lit (by kernel_rfl) (by kernel_rfl) ?_; (repeat (go_big_quiet_step (((go_at_call 44; exact ext_call (l10One_any _ _ _ _ _ _ _ _ _ _)))))); refine wpQuiet_nil ?_; rintro wq ⟨⟨_, heq⟩, rfl⟩; (try dsimp only))
            go_wp2
            go_ret
            exact ⟨ret_bool hbad.out.symm, he.trans heq⟩
    · obtain rfl : n = k := by omega
      have hend := Lib.hid (CoversOk_end h.len HA.out)
      go_wp2
      go_ret
      exact ⟨ret_bool hend.out.symm, he⟩


set_option maxHeartbeats 400000 in
theorem AreCoversI_any (A : Option Addr) (n c : Nat) (xs : List Cover) (w : World) (h : CoverL w A n xs) :
    Calls Try.prog 19 #[.slice A n c] w fun e w' => e = .returned (.bool (CoversOk xs)) ∧ Ext w w' := by
  have H := Lib.hid h
  clear h
  go_enter Try.func19, Try.ntmps19
  go_wp2_with (go_at_call 47; refine (areCovers_any _ _ _ xs _ H.out).mono ?_; rintro e wa ⟨rfl, he1⟩)
  go_ret
  exact ⟨rfl, he1⟩

set_option maxHeartbeats 400000 in
theorem AreCoversS_any (A : Option Addr) (n c : Nat) (xs : List Cover) (w : World) (h : CoverL w A n xs) :
    Calls Try.prog 17 #[.slice A n c] w fun e w' => e = .returned (.bool (CoversOk xs)) ∧ Ext w w' := by
  have H := Lib.hid h
  clear h
  go_enter Try.func17, Try.ntmps17
  go_wp2_with (go_at_call 46; refine (l10Good_any _ _ _ xs _ H.out).mono ?_; rintro e wa ⟨rfl, he1⟩)
  go_ret
  exact ⟨rfl, he1⟩

set_option maxRecDepth 100000 in
set_option maxHeartbeats 1000000 in
theorem FnExactAreCovers_any (A : Option Addr) (n c : Nat) (xs : List Cover) (w : World) (hn : xs.length = n) (hm : n ≤ maxLen) (hw : ∀ x ∈ xs, x.Wf) (hr : Rd w A n 9 (xs.flatMap Cover.cs)) :
    Calls Try.prog 5 #[.slice A n c] w fun e w' => e = .returned (.bool true) ∧ Ext w w' := by
  have H := Lib.hid hn
  have HW := Lib.hid hw
  have HR := Lib.hid hr
  clear hn hw hr
  go_enter Try.func5, Try.ntmps5
  go_wp2_with fail
  refine (szCoverS_any _ _ _ xs _ _ (by omega) (by omega) H.out hm HW.out HR.out).mono ?_
  rintro e w1 ⟨r, rfl, r1, r2, r3, e1⟩
  by_cases hr0 : r < 0
  · go_wp2
    go_ret
    exact ⟨rfl, e1⟩
  have hn1 : (n : Int) ≤ 1048576 := r3 (by omega)
  go_wp2_with fail
  refine (toCoverS_any _ _ _ xs _ H.out (by omega) (HR.out.ext e1)).mono ?_
  rintro e w2 ⟨rfl, o2, e2⟩
  have L2 := Lib.hid (show CoverL w2 _ n xs from ⟨H.out, by omega, HW.out, Rd.own o2⟩)
  clear o2
  go_wp2_with fail
  refine (AreCoversS_any _ _ _ xs _ L2.out).mono ?_
  rintro e w3 ⟨rfl, e3⟩
  go_wp2_with fail
  refine (toCoverS_any _ _ _ xs _ H.out (by omega) (HR.out.ext (e1.trans (e2.trans e3)))).mono ?_
  rintro e w4 ⟨rfl, o4, e4⟩
  have L4 := Lib.hid (show CoverL w4 _ n xs from ⟨H.out, by omega, HW.out, Rd.own o4⟩)
  clear o4
  go_wp2_with fail
  refine (AreCoversI_any _ _ _ xs _ L4.out).mono ?_
  rintro e w5 ⟨rfl, e5⟩
  go_wp2_with fail
  refine (toCoverS_any _ _ _ xs _ H.out (by omega) (HR.out.ext (e1.trans (e2.trans (e3.trans (e4.trans e5)))))).mono ?_
  rintro e w6 ⟨rfl, o6, e6⟩
  have R6 := Lib.hid (Rd.own o6)
  clear o6
  go_wp2_with fail
  refine (eqCoverS_same _ _ _ _ _ xs _ H.out (by omega) (L4.out.rd.ext (e5.trans e6)) R6.out).mono ?_
  rintro e w7 ⟨rfl, e7⟩
  go_wp2
  go_ret
  exact ⟨rfl, e1.trans (e2.trans (e3.trans (e4.trans (e5.trans (e6.trans e7)))))⟩
end Go.Proofs.Ytopjomkjdmcljaa
