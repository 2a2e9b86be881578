/- Texts and numbers that mark memory. -/
import Derived.Test.YtekfccfghmggmaaQuiet
import Derived.Test.YtekfccfghmggmaaNum
import Derived.Laws.IdiomStrings
namespace Go.Proofs.Ytekfccfghmggmaa
open Go.RowKit
set_option linter.unusedVariables false
set_option linter.unusedSimpArgs false
attribute [local go_sem] ExtOf.cell

def dig (i : Int) : UInt8 := UInt8.ofNat (48 + i % 10).toNat
theorem dig_nat (i : Int) : ((dig i).toNat : Int) = 48 + i % 10 := by
  unfold dig
  rw [UInt8.toNat_ofNat']
  omega
def digS (i : Int) : ByteArray := ⟨[dig i].toArray⟩
def catS (a b : ByteArray) : ByteArray := a ++ b
theorem cat_size (i : Int) (out : ByteArray) : (catS (digS i) out).size = 1 + out.size := by
  unfold catS
  rw [ByteArray.size_append]
  rfl
def mt : Nat → Int → ByteArray → ByteArray
  | 0, _, out => out
  | f + 1, i, out => if i ≤ 0 then out else mt f (i / 10) (catS (digS i) out)
theorem mt_more : ∀ (f : Nat) (i : Int) (out : ByteArray), i.toNat ≤ f → mt f i out = mt i.toNat i out := by
  intro f
  induction f using Nat.strongRecOn with
  | _ f ih =>
    intro i out h
    cases f with
    | zero => rw [show i.toNat = 0 by omega]
    | succ f =>
      by_cases hi : i ≤ 0
      · have e : i.toNat = 0 := by omega
        rw [e]; simp [mt, hi]
      · obtain ⟨g, hg⟩ : ∃ g, i.toNat = g + 1 := ⟨i.toNat - 1, by omega⟩
        rw [hg, mt, mt, if_neg hi, if_neg hi, ih f (by omega) _ _ (by omega), ih g (by omega) _ _ (by omega)]
theorem mt_step {i : Int} (out : ByteArray) (h : 0 < i) : mt i.toNat i out = mt (i / 10).toNat (i / 10) (catS (digS i) out) := by
  obtain ⟨g, hg⟩ : ∃ g, i.toNat = g + 1 := ⟨i.toNat - 1, by omega⟩
  rw [hg, mt, if_neg (by omega), mt_more g _ _ (by omega)]
/-- The text that marks with the number k. -/
def markS (k : Int) : ByteArray := catS ⟨#[109]⟩ (mt k.toNat k ⟨#[]⟩)
set_option maxHeartbeats 400000 in
theorem markText_any (k : Int) (h1 : 1 ≤ k) (h2 : k ≤ 100000000) (w : World) :
    Calls Try.prog 39 #[.int .i64 k] w fun e w' => e = .returned (.string (markS k)) ∧ Ext w w' := by
  go_enter Try.func39, Try.ntmps39
  go_wp2
  go_loopw [0, 3] (fun j o wr => ∃ (i : Int) (out : ByteArray), 0 ≤ i ∧ i + out.size ≤ 100000000 ∧ j = .int .i64 i ∧ o = .string out ∧ mt i.toNat i out = mt k.toNat k ⟨#[]⟩ ∧ Ext w wr) (fun j _ _ => (intOf j).toNat)
  case atStart => exact ⟨k, ⟨#[]⟩, by omega, by show k + ((0 : Nat) : Int) ≤ 100000000; omega, rfl, rfl, rfl, Ext.refl _⟩
  case round =>
    obtain ⟨i, out, hi1, hi2, rfl, rfl, hmt, he⟩ := hrel
    have HM := Lib.hid hmt
    clear hmt
    by_cases h0 : 0 < i
    · have hconv := run_convert_bytes_back (P := Try.prog) (wr.alloc (.cells #[.int .u8 (48 + i % 10)] 5)) 34 9 5 ⟨wr.heap.size, 0, none⟩ 1 [dig i] Try.underlying34 Try.underlying5 Try.underlying9 (fun j hj => by
        obtain rfl : j = 0 := by simpa using hj
        simp only [List.getElem_cons_zero, dig_nat]
        simp [go_sem, Addr.add])
      simp only [List.length_singleton] at hconv
      go_wp2
      go_roundw
      case rel => exact ⟨i / 10, catS (digS i) out, by omega, by have := cat_size i out; omega, rfl, rfl, by rw [← mt_step out h0]; exact HM.out, he.alloc _⟩
      case measure => simp [intOf]; omega
    · obtain rfl : i = 0 := by omega
      have hout := Lib.hid (show out = mt k.toNat k ⟨#[]⟩ from HM.out)
      go_wp2
      go_ret
      exact ⟨by rw [markS, ← hout.out]; rfl, he⟩
def strs (l : List ByteArray) : List Value := l.map Value.string
theorem strs_get {l : List ByteArray} {k : Nat} {a : ByteArray} (h : l[k]? = some a) : (strs l)[k]? = some (.string a) := by simp [strs, h]
theorem strs_length (l : List ByteArray) : (strs l).length = l.length := by simp [strs]
theorem Rd.str {w : World} {A : Option Addr} {n k : Nat} {l : List ByteArray} (h : Rd w A n 1 (strs l)) (hk : k < n) :
    ∃ b off x, A = some ⟨b, off, none⟩ ∧ b < w.heap.size ∧ Hid (l[k]? = some x) ∧ w.cell? ⟨b, off + k, none⟩ = some (.string x) := by
  obtain ⟨b, off, e, hb, hc⟩ := h.2 (by omega)
  have hl : k < l.length := by have := h.1; rw [strs_length] at this; omega
  have hx : l[k]? = some l[k] := List.getElem?_eq_getElem hl
  exact ⟨b, off, l[k], e, hb, hx, hc k _ (strs_get hx)⟩
set_option maxHeartbeats 400000 in
theorem eqStringS_same (A A' : Option Addr) (n c c' : Nat) (l : List ByteArray) (w : World) (hm : n ≤ 1048576) (hr : Rd w A n 1 (strs l)) (hr' : Rd w A' n 1 (strs l)) :
    Calls Try.prog 37 #[.slice A n c, .slice A' n c'] w fun e w' => e = .returned (.bool true) ∧ Ext w w' := by
  go_enter Try.func37, Try.ntmps37
  go_wp2
  go_loopw [5] (fun i wr => ∃ k : Nat, k ≤ n ∧ i = .int .i64 k ∧ Ext w wr) (fun i _ => n - (intOf i).toNat)
  case atStart => exact ⟨0, Nat.zero_le _, rfl, Ext.refl _⟩
  case round =>
    obtain ⟨k, hk, rfl, he⟩ := hrel
    by_cases hlt : k < n
    · obtain ⟨b, off, x, rfl, hb, hx, g0⟩ := (hr.ext he).str hlt
      obtain ⟨b', off', y, rfl, hb', hy, q0⟩ := (hr'.ext he).str hlt
      obtain rfl : x = y := by have := hx.out.symm.trans hy.out; injection this
      clear hr hr'
      go_wp2
      (refine wp_region_ext_lit (by kernel_rfl) (by kernel_rfl) ?_; (repeat (go_big_quiet_step ((fail)))); refine wpQuiet_nil ?_; rintro wq ⟨⟨_, heq⟩, rfl⟩; (try dsimp only))
      go_wp2
      go_roundw
      case rel => exact ⟨k + 1, by omega, by go_num, he.trans heq⟩
      case measure => simp [intOf]; omega
    · obtain rfl : k = n := by omega
      go_wp2
      go_ret
      exact ⟨rfl, he⟩
def marks (k : Int) (n : Nat) : List ByteArray := (List.range n).map fun (i : Nat) => markS (k + (i : Int))
theorem marks_length (k : Int) (n : Nat) : (marks k n).length = n := by simp [marks]
theorem marks_get (k : Int) {n i : Nat} (h : i < n) : (marks k n)[i]? = some (markS (k + i)) := by simp [marks, h]
set_option maxHeartbeats 400000 in
theorem heldStringS_any (A : Option Addr) (n c : Nat) (k : Int) (w : World) (h1 : 1 ≤ k) (h2 : k + n ≤ 100000000) (hr : Rd w A n 1 (strs (marks k n))) :
    Calls Try.prog 41 #[.slice A n c, .int .i64 k] w fun e w' => e = .returned (.int .i64 (k + n)) ∧ Ext w w' := by
  go_enter Try.func41, Try.ntmps41
  go_wp2
  go_loopw [1, 5] (fun q i wr => ∃ j : Nat, j ≤ n ∧ i = .int .i64 j ∧ q = .int .i64 (k + j) ∧ Ext w wr) (fun _ i _ => n - (intOf i).toNat)
  case atStart => exact ⟨0, Nat.zero_le _, rfl, by simp, Ext.refl _⟩
  case round =>
    obtain ⟨j, hj, rfl, rfl, he⟩ := hrel
    by_cases hlt : j < n
    · obtain ⟨b, off, x, rfl, hb, hx, g0⟩ := (hr.ext he).str hlt
      obtain rfl : x = markS (k + j) := by have := hx.out.symm.trans (marks_get k hlt); injection this
      clear hr hx
      go_wp2
      (refine wp_region_ext_lit (by kernel_rfl) (by kernel_rfl) ?_; (repeat (go_big_quiet_step (((go_at_call 39; exact ext_call (markText_any _ (by omega) (by omega) _)))))); refine wpQuiet_nil ?_; rintro wq ⟨⟨_, heq⟩, rfl⟩; (try dsimp only))
      go_wp2
      go_roundw
      case rel => exact ⟨j + 1, by omega, by go_num, by rw [Int.natCast_add]; simp only [Int.natCast_one, Int.add_assoc], he.trans heq⟩
      case measure => simp [intOf]; omega
    · obtain rfl : j = n := by omega
      go_wp2
      go_ret
      exact ⟨rfl, he⟩
end Go.Proofs.Ytekfccfghmggmaa
