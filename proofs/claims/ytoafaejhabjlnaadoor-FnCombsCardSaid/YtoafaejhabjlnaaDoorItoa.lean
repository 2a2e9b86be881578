/- Numbers as texts: strconv.Itoa, and the reference's own. -/
import Derived.Test.YtoafaejhabjlnaaDoorQuiet
import Derived.Test.YtoafaejhabjlnaaDoorShelf
import Derived.Lib.SmallJoins
import Derived.IntWalk
namespace Go.Proofs.YtoafaejhabjlnaaDoor
open Go.RowKit
set_option linter.unusedVariables false
set_option linter.unusedSimpArgs false
attribute [local go_sem] ExtOf.cell

/-- The text of a number. -/
def numT (n : Int) : ByteArray := ⟨(Lib.itoa n).toArray⟩
/-- The library's table of powers of ten is there. -/
def TabOkW (w : World) : Prop := Lib.TabIs Tryd.prog w "internal/strconv.uint64pow10" .u64 Lib.pow10Tab
theorem gPow : Tryd.prog.globalNamed "internal/strconv.uint64pow10" = some 0 := by kernel_rfl
theorem TabOkW.ext {w w' : World} (h : TabOkW w) (he : Ext w w') : TabOkW w' := Go.Joins.var_stays gPow h he.below (Nat.le_refl _)
theorem ext_growW (w : World) (k : Nat) (os : Array Obj) : Ext w (Go.Sort.grow (w.drewN k) os) := by
  refine ⟨rfl, rfl, rfl, by simp [Go.Sort.grow, World.drewN], fun i hi => ?_⟩
  show (w.heap ++ os)[i]? = w.heap[i]?
  rw [Array.getElem?_append_left hi]
theorem Itoa_any (n : Int) (w : World) (h0 : -9223372036854775808 ≤ n) (h1 : n ≤ 9223372036854775807) (h : TabOkW w) :
    Calls Tryd.prog 42 #[.int .i64 n] w fun e w' => e = .returned (.string (numT n)) ∧ Ext w w' := by
  refine (Tryd.strconv_Itoa n h0 h1 w h).mono ?_
  rintro e w' ⟨rfl, k, os, rfl⟩
  exact ⟨rfl, ext_growW w k os⟩
theorem itoa_call {w : World} (h : TabOkW w) {e : ExtOf w} {n : Int} (h0 : -9223372036854775808 ≤ n) (h1 : n ≤ 9223372036854775807) :
    Calls Tryd.prog 42 #[.int .i64 n] e.val fun x w'' => x = .returned (.string (numT n)) ∧ ∃ e' : ExtOf w, w'' = e'.val :=
  ext_call (Itoa_any n e.val h0 h1 (h.ext e.ext))
theorem numT_small {n : Int} (h0 : 0 ≤ n) (h : n < 10) : numT n = ⟨#[UInt8.ofNat (48 + n.toNat)]⟩ := by
  unfold numT Lib.itoa
  rw [if_neg (by omega), Lib.decDigits_one (by omega)]
theorem numT_big {n : Int} (h : 10 ≤ n) : numT n = numT (n / 10) ++ (⟨#[UInt8.ofNat (48 + (n % 10).toNat)]⟩ : ByteArray) := by
  have e : Lib.decDigits n.toNat = Lib.decDigits (n / 10).toNat ++ [UInt8.ofNat (48 + (n % 10).toNat)] := by
    rw [Lib.decDigits, dif_neg (by omega), show n.toNat / 10 = (n / 10).toNat by omega, show n.toNat % 10 = (n % 10).toNat by omega]
  unfold numT Lib.itoa
  rw [if_neg (by omega), if_neg (by omega), e]
  apply ByteArray.ext
  simp [ByteArray.data_append]
theorem decDigits_len : ∀ (k n : Nat), n ≤ k → (Lib.decDigits n).length ≤ n + 1 := by
  intro k
  induction k with
  | zero => intro n h; obtain rfl : n = 0 := by omega
            rw [Lib.decDigits_one (by omega)]; simp
  | succ k ih =>
    intro n h
    by_cases h10 : n < 10
    · rw [Lib.decDigits_one h10]; simp
    · rw [Lib.decDigits, dif_neg h10, List.length_append]
      have := ih (n / 10) (by omega)
      simp only [List.length_cons, List.length_nil]
      omega
theorem numT_size {n : Int} (h0 : 0 ≤ n) (h : n ≤ 1000000000) : (numT n).size ≤ 1000000001 := by
  have := decDigits_len _ n.toNat (Nat.le_refl _)
  have e : (numT n).size = (Lib.decDigits n.toNat).length := by
    unfold numT Lib.itoa
    rw [if_neg (by omega)]
    simp [ByteArray.size]
  rw [e]
  omega
theorem ret_str {a b : ByteArray} (h : a = b) : Ending.returned (.string a) = .returned (.string b) := by rw [h]
set_option maxHeartbeats 400000 in
theorem l1Num_any : ∀ (k : Nat) (n : Int) (w : World), 0 ≤ n → n ≤ k → n ≤ 1000000000 →
    Calls Tryd.prog 44 #[.int .i64 n] w fun e w' => e = .returned (.string (numT n)) ∧ Ext w w' := by
  intro k
  induction k with
  | zero =>
    intro n w h0 hk _
    obtain rfl : n = 0 := by omega
    go_enter Tryd.func44, Tryd.ntmps44
    go_wp2_with fail
    go_ret
    exact ⟨ret_str (by rw [numT_small (by omega) (by omega)]; rfl), Ext.refl _⟩
  | succ k ih =>
    intro n w h0 hk hb
    by_cases hs : n < 10
    · obtain rfl | rfl | rfl | rfl | rfl | rfl | rfl | rfl | rfl | rfl : n = 0 ∨ n = 1 ∨ n = 2 ∨ n = 3 ∨ n = 4 ∨ n = 5 ∨ n = 6 ∨ n = 7 ∨ n = 8 ∨ n = 9 := by omega
      all_goals
        go_enter Tryd.func44, Tryd.ntmps44
        go_wp2_with fail
        go_ret
        exact ⟨ret_str (by rw [numT_small (by omega) (by omega)]; rfl), Ext.refl _⟩
    · have hN := Lib.hid (numT_big (n := n) (by omega))
      have hd0 : decide (n < 0) = false := by simp; omega
      have hd1 : decide (n < 10) = false := by simp; omega
      have IH := Lib.hid (fun (w' : World) => ih (n / 10) w' (by omega) (by omega) (by omega))
      have t1 : n.tdiv 10 = n / 10 := Int.tdiv_eq_ediv_of_nonneg h0
      have t2 : n.tmod 10 = n % 10 := Int.tmod_eq_emod_of_nonneg h0
      have hq : 0 ≤ n / 10 ∧ n / 10 ≤ 1000000000 := by omega
      have hm : 0 ≤ n % 10 ∧ n % 10 < 10 := by omega
      generalize n / 10 = q at *
      generalize hr : n % 10 = r at *
      have hz : (numT q).size ≤ 1000000001 := numT_size hq.1 hq.2
      have w1 : IntKind.i64.wrap q = q := IntWalk.i64_in _ (by omega)
      clear hr
      obtain ⟨q1, q2⟩ := hq
      obtain ⟨m1, m2⟩ := hm
      obtain rfl | rfl | rfl | rfl | rfl | rfl | rfl | rfl | rfl | rfl : r = 0 ∨ r = 1 ∨ r = 2 ∨ r = 3 ∨ r = 4 ∨ r = 5 ∨ r = 6 ∨ r = 7 ∨ r = 8 ∨ r = 9 := by omega
      all_goals
        go_enter Tryd.func44, Tryd.ntmps44
        go_wp2_with fail
        (refine wp_region_ext_lit (by kernel_rfl) (by kernel_rfl) ?_; (repeat (go_big_quiet_step (((go_at_call 44; exact ext_call (IH.out _)))))); refine wpQuiet_nil ?_; rintro wq ⟨⟨_, heq⟩, rfl⟩; (try dsimp only))
        go_wp2_with fail
        go_ret
        exact ⟨ret_str (by rw [hN.out]; rfl), heq⟩
end Go.Proofs.YtoafaejhabjlnaaDoor
