/- Lists of numbers: equality, marks (made by wip/lists.py). -/
import Derived.Test.YtkganlojknhajaaMark2
import Derived.Test.YtkganlojknhajaaAdj
import Derived.Test.YtkganlojknhajaaCmp
namespace Go.Proofs.Ytkganlojknhajaa
open Go.RowKit
set_option linter.unusedVariables false
set_option linter.unusedSimpArgs false
attribute [local go_sem] ExtOf.cell

theorem ints_length (l : List Int) : (ints l).length = l.length := by simp [ints]
theorem Rd.int {w : World} {A : Option Addr} {n k : Nat} {l : List Int} (h : Rd w A n 1 (ints l)) (hk : k < n) :
    ∃ b off x, A = some ⟨b, off, none⟩ ∧ b < w.heap.size ∧ Hid (l[k]? = some x) ∧ w.cell? ⟨b, off + k, none⟩ = some (.int .i64 x) := by
  obtain ⟨b, off, e, hb, hc⟩ := h.2 (by omega)
  have hl : k < l.length := by have := h.1; rw [ints_length] at this; omega
  have hx : l[k]? = some l[k] := List.getElem?_eq_getElem hl
  exact ⟨b, off, l[k], e, hb, hx, hc k _ (ints_get hx)⟩
set_option maxHeartbeats 400000 in
theorem eqIntS_same (A A' : Option Addr) (n c c' : Nat) (l : List Int) (w : World) (hm : n ≤ 1048576) (hr : Rd w A n 1 (ints l)) (hr' : Rd w A' n 1 (ints l)) :
    Calls Try.prog 29 #[.slice A n c, .slice A' n c'] w fun e w' => e = .returned (.bool true) ∧ Ext w w' := by
  go_enter Try.func29, Try.ntmps29
  go_wp2
  go_loopw [5] (fun i wr => ∃ k : Nat, k ≤ n ∧ i = .int .i64 k ∧ Ext w wr) (fun i _ => n - (intOf i).toNat)
  case atStart => exact ⟨0, Nat.zero_le _, rfl, Ext.refl _⟩
  case round =>
    obtain ⟨k, hk, rfl, he⟩ := hrel
    by_cases hlt : k < n
    · obtain ⟨b, off, x, rfl, hb, hx, g0⟩ := (hr.ext he).int hlt
      obtain ⟨b', off', y, rfl, hb', hy, q0⟩ := (hr'.ext he).int hlt
      obtain rfl : x = y := by have := hx.out.symm.trans hy.out; injection this
      clear hr hr'
      go_wp2
      (refine wp_region_ext_lit (by kernel_rfl) (by kernel_rfl) ?_; (repeat (go_big_quiet_step ((fail)))); refine wpQuiet_nil ?_; rintro wq ⟨⟨_, heq⟩, rfl⟩; (try dsimp only))
      go_wp2
      go_roundw
      case rel => exact ⟨k + 1, by omega, by go_num, he.trans heq⟩
      case measure => simp [intOf]; omega
    · obtain rfl : k = n := by omega
      go_wp2
      go_ret
      exact ⟨rfl, he⟩
def marksI (k : Int) (n : Nat) : List Int := (List.range n).map fun (i : Nat) => k + (i : Int)
theorem marksI_length (k : Int) (n : Nat) : (marksI k n).length = n := by simp [marksI]
theorem marksI_get (k : Int) {n i : Nat} (h : i < n) : (marksI k n)[i]? = some (k + i) := by simp [marksI, h]
set_option maxHeartbeats 400000 in
theorem heldIntS_any (A : Option Addr) (n c : Nat) (k : Int) (w : World) (h1 : 1 ≤ k) (h2 : k + n ≤ 100000000) (hr : Rd w A n 1 (ints (marksI k n))) :
    Calls Try.prog 32 #[.slice A n c, .int .i64 k] w fun e w' => e = .returned (.int .i64 (k + n)) ∧ Ext w w' := by
  go_enter Try.func32, Try.ntmps32
  go_wp2
  go_loopw [1, 5] (fun q i wr => ∃ j : Nat, j ≤ n ∧ i = .int .i64 j ∧ q = .int .i64 (k + j) ∧ Ext w wr) (fun _ i _ => n - (intOf i).toNat)
  case atStart => exact ⟨0, Nat.zero_le _, rfl, by simp, Ext.refl _⟩
  case round =>
    obtain ⟨j, hj, rfl, rfl, he⟩ := hrel
    by_cases hlt : j < n
    · obtain ⟨b, off, x, rfl, hb, hx, g0⟩ := (hr.ext he).int hlt
      obtain rfl : x = k + j := by have := hx.out.symm.trans (marksI_get k hlt); injection this
      clear hr hx
      go_wp2
      go_roundw
      case rel => exact ⟨j + 1, by omega, by go_num, by rw [Int.natCast_add]; simp only [Int.natCast_one, Int.add_assoc], he⟩
      case measure => simp [intOf]; omega
    · obtain rfl : j = n := by omega
      go_wp2
      go_ret
      exact ⟨rfl, he⟩
set_option maxHeartbeats 400000 in
theorem markIntS_any (A : Option Addr) (n c base : Nat) (l : List Int) (k : Int) (w : World) (h1 : 1 ≤ k) (h2 : k + n ≤ 100000000) (ho : w.ownsRow base 3 1 (.slice A n c) n (ints l)) :
    Calls Try.prog 31 #[.slice A n c, .int .i64 k] w fun e w' => e = .returned (.int .i64 (k + n)) ∧ w'.ownsRow base 3 1 (.slice A n c) n (ints (marksI k n)) ∧ w.grownBy w' (Value.ownBlock (.slice A n c)) := by
  have HL := Lib.hid (show (ints l).length = n * 1 from ho.1)
  have HF := Lib.hid (show ∀ v : Int, [Value.int .i64 v].length = 1 from fun _ => rfl)
  have hs : ∀ l : List Int, ints l = l.flatMap (fun v => [Value.int .i64 v]) := fun l => by
    induction l with
    | nil => rfl
    | cons a l ih => simp only [ints, List.map_cons, List.flatMap_cons] at *; rw [ih]; rfl
  have HS := Lib.hid hs
  clear hs
  generalize ints l = Z at *
  go_enter Try.func31, Try.ntmps31
  go_wp2
  go_loopw [1, 5] (fun q i wr => ∃ j : Nat, j ≤ n ∧ i = .int .i64 j ∧ q = .int .i64 (k + j) ∧ wr.ownsRow base 3 1 (.slice A n c) n (fillTo (fun v => [Value.int .i64 v]) (marksI k n) Z 1 j) ∧ w.grownBy wr (Value.ownBlock (.slice A n c))) (fun _ i _ => n - (intOf i).toNat)
  case atStart => exact ⟨0, Nat.zero_le _, rfl, by simp, by rw [fill_zero]; exact ho, World.grownBy.refl _ _⟩
  case round =>
    obtain ⟨j, hj, rfl, rfl, hor, hgr⟩ := hrel
    clear ho
    by_cases hlt : j < n
    · obtain ⟨g, cap, hv, hbg, hgl⟩ := hor.form (by omega)
      injection hv with hA _ hc
      subst hA
      clear hc
      have hf1 := hor.frozenAt j
      obtain ⟨u1, hu1⟩ := own_cell (j := j) hor (by omega)
      have HOR := Lib.hid hor
      clear hor
      go_wp2
      go_roundw
      case rel =>
        have ho2 := (HOR.out.stored j (.int .i64 (k + j))).1
        have hfs := fill_set (size := 1) (zs := Z) HF.out (marksI_length k n) HL.out (marksI_get k hlt)
        simp only [setL, Nat.mul_one] at hfs
        rw [hfs] at ho2
        exact ⟨j + 1, by omega, by go_num, by rw [Int.natCast_add]; simp only [Int.natCast_one, Int.add_assoc], ho2, grown_set hgr _ _⟩
      case measure => simp [intOf]; omega
    · obtain rfl : j = n := by omega
      rw [fill_end (marksI_length k j) HL.out, ← HS.out] at hor
      go_wp2
      go_ret
      exact ⟨rfl, hor, hgr⟩
end Go.Proofs.Ytkganlojknhajaa
