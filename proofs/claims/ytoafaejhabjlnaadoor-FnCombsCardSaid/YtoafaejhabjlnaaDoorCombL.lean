/- Lists of combs: reading, valid lists (made by wip/combs.py). -/
import Derived.Test.YtoafaejhabjlnaaDoorComb
import Derived.Test.YtoafaejhabjlnaaDoorAdj
namespace Go.Proofs.YtoafaejhabjlnaaDoor
open Go.RowKit
set_option linter.unusedVariables false
set_option linter.unusedSimpArgs false
attribute [local go_sem] ExtOf.cell

def Comb.cs (x : Comb) : List Value := [.int .i64 x.Id, .int .i64 x.Wide, .int .i64 x.High, .bool x.Line]
theorem Comb.len (x : Comb) : x.cs.length = 4 := rfl
theorem Comb.one (x : Comb) : ∀ u ∈ x.cs, u.oneCell' = true := fun u hu => by
  simp only [Comb.cs, List.mem_cons, List.not_mem_nil, or_false] at hu
  rcases hu with rfl | rfl | rfl | rfl <;> rfl
theorem Comb.at_ {w : World} {A : Option Addr} {n k : Nat} {xs : List Comb} (h : Rd w A n 4 (xs.flatMap Comb.cs)) (hn : xs.length = n) (hk : k < n) :
    ∃ b off x, A = some ⟨b, off, none⟩ ∧ b < w.heap.size ∧ Hid (xs[k]? = some x) ∧ w.cell? ⟨b, off + k * 4, none⟩ = some (.int .i64 x.Id) ∧ w.cell? ⟨b, off + k * 4 + 1, none⟩ = some (.int .i64 x.Wide) ∧ w.cell? ⟨b, off + k * 4 + 2, none⟩ = some (.int .i64 x.High) ∧ w.cell? ⟨b, off + k * 4 + 3, none⟩ = some (.bool x.Line) := by
  obtain ⟨b, off, x, e, hb, hx, hc⟩ := h.at_ Comb.len hn hk
  refine ⟨b, off, x, e, hb, hx, ?_, ?_, ?_, ?_⟩
  · have := hc 0 _ rfl
    simpa [Nat.add_assoc] using this
  · have := hc 1 _ rfl
    simpa [Nat.add_assoc] using this
  · have := hc 2 _ rfl
    simpa [Nat.add_assoc] using this
  · have := hc 3 _ rfl
    simpa [Nat.add_assoc] using this
structure CombL (w : World) (A : Option Addr) (n : Nat) (xs : List Comb) : Prop where
  len : xs.length = n
  small : n ≤ 1048576
  rd : Rd w A n 4 (xs.flatMap Comb.cs)
theorem CombL.ext {w w' : World} {A : Option Addr} {n : Nat} {xs : List Comb} (h : CombL w A n xs) (he : Ext w w') : CombL w' A n xs := ⟨h.len, h.small, h.rd.ext he⟩
theorem CombL.at_ {w : World} {A : Option Addr} {n k : Nat} {xs : List Comb} (h : CombL w A n xs) (hk : k < n) :
    ∃ b off x, A = some ⟨b, off, none⟩ ∧ b < w.heap.size ∧ Hid (xs[k]? = some x) ∧ w.cell? ⟨b, off + k * 4, none⟩ = some (.int .i64 x.Id) ∧ w.cell? ⟨b, off + k * 4 + 1, none⟩ = some (.int .i64 x.Wide) ∧ w.cell? ⟨b, off + k * 4 + 2, none⟩ = some (.int .i64 x.High) ∧ w.cell? ⟨b, off + k * 4 + 3, none⟩ = some (.bool x.Line) :=
  Comb.at_ h.rd h.len hk


def CombGood (x : Comb) : Bool := cbOk x.Id x.Wide x.High
def CombP (q : Option Comb) (x : Comb) : Bool := CombGood x && (match q with
  | none => true
  | some y => decide (y.Id < x.Id))
def CombsOk (xs : List Comb) : Bool := adj CombP none xs && decide (xs.length ≤ 10)
theorem CombsOk_bad {xs : List Comb} {k : Nat} {x : Comb} (hx : xs[k]? = some x) (hp : CombP (before xs k) x = false) : CombsOk xs = false := by
  simp [CombsOk, adj_bad hx hp]
theorem CombsOk_end {xs : List Comb} {n : Nat} (hn : xs.length = n) (h : adjTo CombP xs n) : CombsOk xs = decide ((n : Int) ≤ 10) := by
  subst hn
  simp only [CombsOk, adj_end h, Bool.true_and]
  rw [Bool.eq_iff_iff]; simp; omega
theorem CombsOk_good {xs : List Comb} (h : CombsOk xs = true) : ∀ x ∈ xs, CombGood x = true := by
  simp only [CombsOk, Bool.and_eq_true] at h
  exact adj_all (fun q x hp => by simp only [CombP, Bool.and_eq_true] at hp; exact hp.1) h.1
theorem CombsOk_len {xs : List Comb} (h : CombsOk xs = true) : xs.length ≤ 10 := by
  simp only [CombsOk, Bool.and_eq_true, decide_eq_true_eq] at h
  exact h.2
theorem CombP_at {xs : List Comb} {k j : Nat} {y : Comb} (h : adjTo CombP xs k) (hj : j < k) (hy : xs[j]? = some y) : CombGood y = true := by
  have hm : y ∈ xs.take k := by
    rw [List.mem_iff_getElem?]; exact ⟨j, by rw [List.getElem?_take, if_pos hj, hy]⟩
  exact adj_all (p := CombP) (fun q x hp => by simp only [CombP, Bool.and_eq_true] at hp; exact hp.1) h y hm


set_option maxRecDepth 100000 in
set_option maxHeartbeats 1000000 in
theorem areCombs_any (A : Option Addr) (n c : Nat) (xs : List Comb) (w : World) (h : CombL w A n xs) :
    Calls Tryd.prog 32 #[.slice A n c] w fun e w' => e = .returned (.bool (CombsOk xs)) ∧ Ext w w' := by
  have hsm := h.small
  go_enter Tryd.func32, Tryd.ntmps32
  go_wp2
  go_loopw [7] (fun i wr => ∃ k : Nat, k ≤ n ∧ i = .int .i64 k ∧ adjTo CombP xs k ∧ Ext w wr) (fun i _ => n - (intOf i).toNat)
  case atStart => exact ⟨0, Nat.zero_le _, rfl, adjTo_zero _ _, Ext.refl _⟩
  case round =>
    obtain ⟨k, hk, rfl, ha, he⟩ := hrel
    have HA := Lib.hid ha
    clear ha
    by_cases hlt : k < n
    · obtain ⟨b, off, x, rfl, hb, hx, g0, g1, g2, g3⟩ := (h.ext he).at_ hlt
      cases hs : cbOk x.Id x.Wide x.High
      · have hbad := Lib.hid (CombsOk_bad hx.out (by simp [CombP, CombGood, hs]))
        go_wp2
        (refine wp_region_ext_lit (by kernel_rfl) (by kernel_rfl) ?_; (repeat (go_big_quiet_step (((go_at_call 41; exact ext_call (isComb_any _ _ _ _ _)))))); refine wpQuiet_nil ?_; rintro wq ⟨⟨_, heq⟩, rfl⟩; (try dsimp only))
        go_wp2
        go_ret
        exact ⟨ret_bool hbad.out.symm, he.trans (((Ext.refl _).alloc _).trans heq)⟩
      · rcases Nat.eq_zero_or_pos k with hk0 | hpos
        · have hgood := Lib.hid (adjTo_succ HA.out hx.out (by simp [CombP, CombGood, hs, hk0, before_zero]))
          have hd : decide (0 < (k : Int)) = false := by simp; omega
          have hd2 : decide (0 < k) = false := by simp; omega
          clear hk0
          go_wp2
          (refine wp_region_ext_lit (by kernel_rfl) (by kernel_rfl) ?_; (repeat (go_big_quiet_step (((go_at_call 41; exact ext_call (isComb_any _ _ _ _ _)))))); refine wpQuiet_nil ?_; rintro wq ⟨⟨_, heq⟩, rfl⟩; (try dsimp only))
          go_wp2
          go_roundw
          case rel => exact ⟨k + 1, by omega, by go_num, hgood.out, he.trans (((Ext.refl _).alloc _).trans heq)⟩
          case measure => simp [intOf]; omega
        · obtain ⟨b', off', y, eA, hb', hy, q0, q1, q2, q3⟩ := (h.ext he).at_ (show k - 1 < n by omega)
          injection eA with eA
          injection eA with e1 e2
          subst e1; subst e2
          have hd : decide (0 < (k : Int)) = true := by simp; omega
          have hd2 : decide (0 < k) = true := by simp; omega
          cases hl : decide (x.Id ≤ y.Id)
          · have hgood := Lib.hid (adjTo_succ HA.out hx.out (by simp [CombP, CombGood, hs, before_pos hpos hy.out]; simpa using hl))
            go_wp2
            (refine wp_region_ext_lit (by kernel_rfl) (by kernel_rfl) ?_; (repeat (go_big_quiet_step (((go_at_call 41; exact ext_call (isComb_any _ _ _ _ _)))))); refine wpQuiet_nil ?_; rintro wq ⟨⟨_, heq⟩, rfl⟩; (try dsimp only))
            go_wp2
            go_roundw
            case rel => exact ⟨k + 1, by omega, by go_num, hgood.out, he.trans (((Ext.refl _).alloc _).trans heq)⟩
            case measure => simp [intOf]; omega
          · have hbad := Lib.hid (CombsOk_bad hx.out (by simp [CombP, CombGood, hs, before_pos hpos hy.out]; simpa using hl))
            go_wp2
            (refine wp_region_ext_lit (by kernel_rfl) (by kernel_rfl) ?_; (repeat (go_big_quiet_step (((go_at_call 41; exact ext_call (isComb_any _ _ _ _ _)))))); refine wpQuiet_nil ?_; rintro wq ⟨⟨_, heq⟩, rfl⟩; (try dsimp only))
            go_wp2
            go_ret
            exact ⟨ret_bool hbad.out.symm, he.trans (((Ext.refl _).alloc _).trans heq)⟩
    · obtain rfl : n = k := by omega
      have hend := Lib.hid (CombsOk_end h.len HA.out)
      go_wp2
      go_ret
      exact ⟨ret_bool hend.out.symm, he⟩


set_option maxRecDepth 100000 in
set_option maxHeartbeats 1000000 in
theorem l5Good_any (A : Option Addr) (n c : Nat) (xs : List Comb) (w : World) (h : CombL w A n xs) :
    Calls Tryd.prog 35 #[.slice A n c] w fun e w' => e = .returned (.bool (CombsOk xs)) ∧ Ext w w' := by
  have hsm := h.small
  go_enter Tryd.func35, Tryd.ntmps35
  go_wp2
  go_loopw [3] (fun i wr => ∃ k : Nat, k ≤ n ∧ i = .int .i64 k ∧ adjTo CombP xs k ∧ Ext w wr) (fun i _ => n - (intOf i).toNat)
  case atStart => exact ⟨0, Nat.zero_le _, rfl, adjTo_zero _ _, Ext.refl _⟩
  case round =>
    obtain ⟨k, hk, rfl, ha, he⟩ := hrel
    have HA := Lib.hid ha
    clear ha
    by_cases hlt : k < n
    · obtain ⟨b, off, x, rfl, hb, hx, g0, g1, g2, g3⟩ := (h.ext he).at_ hlt
      cases hs : cbOk x.Id x.Wide x.High
      · have hbad := Lib.hid (CombsOk_bad hx.out (by simp [CombP, CombGood, hs]))
        go_wp2
        (refine wp_region_ext_lit (by kernel_rfl) (by kernel_rfl) ?_; (repeat (go_big_quiet_step (((go_at_call 43; exact ext_call (l5One_any _ _ _ _ _)))))); refine wpQuiet_nil ?_; rintro wq ⟨⟨_, heq⟩, rfl⟩; (try dsimp only))
        go_wp2
        go_ret
        exact ⟨ret_bool hbad.out.symm, he.trans heq⟩
      · rcases Nat.eq_zero_or_pos k with hk0 | hpos
        · have hgood := Lib.hid (adjTo_succ HA.out hx.out (by simp [CombP, CombGood, hs, hk0, before_zero]))
          have hd : decide (0 < (k : Int)) = false := by simp; omega
          have hd2 : decide (0 < k) = false := by simp; omega
          clear hk0
          go_wp2
          (refine wp_region_ext_lit (by kernel_rfl) (by kernel_rfl) ?_; (repeat (go_big_quiet_step (((go_at_call 43; exact ext_call (l5One_any _ _ _ _ _)))))); refine wpQuiet_nil ?_; rintro wq ⟨⟨_, heq⟩, rfl⟩; (try dsimp only))
          go_wp2
          go_roundw
          case rel => exact ⟨k + 1, by omega, by go_num, hgood.out, he.trans heq⟩
          case measure => simp [intOf]; omega
        · obtain ⟨b', off', y, eA, hb', hy, q0, q1, q2, q3⟩ := (h.ext he).at_ (show k - 1 < n by omega)
          injection eA with eA
          injection eA with e1 e2
          subst e1; subst e2
          have hd : decide (0 < (k : Int)) = true := by simp; omega
          have hd2 : decide (0 < k) = true := by simp; omega
          cases hl : decide (x.Id ≤ y.Id)
          · have hgood := Lib.hid (adjTo_succ HA.out hx.out (by simp [CombP, CombGood, hs, before_pos hpos hy.out]; simpa using hl))
            go_wp2
            (refine wp_region_ext_lit (by kernel_rfl) (by kernel_rfl) ?_; (repeat (go_big_quiet_step (((go_at_call 43; exact ext_call (l5One_any _ _ _ _ _)))))); refine wpQuiet_nil ?_; rintro wq ⟨⟨_, heq⟩, rfl⟩; (try dsimp only))
            go_wp2
            go_roundw
            case rel => exact ⟨k + 1, by omega, by go_num, hgood.out, he.trans heq⟩
            case measure => simp [intOf]; omega
          · have hbad := Lib.hid (CombsOk_bad hx.out (by simp [CombP, CombGood, hs, before_pos hpos hy.out]; simpa using hl))
            go_wp2
            (refine wp_region_ext_lit (by kernel_rfl) (by kernel_rfl) ?_; (repeat (go_big_quiet_step (((go_at_call 43; exact ext_call (l5One_any _ _ _ _ _)))))); refine wpQuiet_nil ?_; rintro wq ⟨⟨_, heq⟩, rfl⟩; (try dsimp only))
            go_wp2
            go_ret
            exact ⟨ret_bool hbad.out.symm, he.trans heq⟩
    · obtain rfl : n = k := by omega
      have hend := Lib.hid (CombsOk_end h.len HA.out)
      go_wp2
      go_ret
      exact ⟨ret_bool hend.out.symm, he⟩


set_option maxHeartbeats 400000 in
theorem AreCombsI_any (A : Option Addr) (n c : Nat) (xs : List Comb) (w : World) (h : CombL w A n xs) :
    Calls Tryd.prog 21 #[.slice A n c] w fun e w' => e = .returned (.bool (CombsOk xs)) ∧ Ext w w' := by
  have H := Lib.hid h
  clear h
  go_enter Tryd.func21, Tryd.ntmps21
  go_wp2_with (go_at_call 32; refine (areCombs_any _ _ _ xs _ H.out).mono ?_; rintro e wa ⟨rfl, he1⟩)
  go_ret
  exact ⟨rfl, he1⟩

set_option maxHeartbeats 400000 in
theorem AreCombsS_any (A : Option Addr) (n c : Nat) (xs : List Comb) (w : World) (h : CombL w A n xs) :
    Calls Tryd.prog 22 #[.slice A n c] w fun e w' => e = .returned (.bool (CombsOk xs)) ∧ Ext w w' := by
  have H := Lib.hid h
  clear h
  go_enter Tryd.func22, Tryd.ntmps22
  go_wp2_with (go_at_call 35; refine (l5Good_any _ _ _ xs _ H.out).mono ?_; rintro e wa ⟨rfl, he1⟩)
  go_ret
  exact ⟨rfl, he1⟩

end Go.Proofs.YtoafaejhabjlnaaDoor
