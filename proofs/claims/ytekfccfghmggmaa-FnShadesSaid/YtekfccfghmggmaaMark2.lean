/- Memory marked. -/
import Derived.Test.YtekfccfghmggmaaMark
import Derived.Test.YtekfccfghmggmaaStructs
namespace Go.Proofs.Ytekfccfghmggmaa
open Go.RowKit
set_option linter.unusedVariables false
set_option linter.unusedSimpArgs false
attribute [local go_sem] ExtOf.cell

theorem grown_ext {a b c : World} {row : Option Nat} (h : a.grownBy b row) (k : Ext b c) : a.grownBy c row := by
  obtain ⟨k1, k2, k3, k4, k5⟩ := k
  exact ⟨k1.trans h.os, k2.trans h.tape, k3.trans h.output, Nat.le_trans h.size k4, fun i hi hne => (k5 i (Nat.lt_of_lt_of_le hi h.size)).trans (h.block i hi hne)⟩
theorem grown_set {a b : World} {g : Nat} (h : a.grownBy b (some g)) (o : Nat) (u : Value) : a.grownBy (b.setCell ⟨g, o, none⟩ u) (some g) :=
  ⟨h.os, h.tape, h.output, by simpa using h.size, fun i hi hne => (heap_setCell_other b ⟨g, o, none⟩ i u (fun e => hne (by simp [e]))).trans (h.block i hi hne)⟩
theorem own_cell {w : World} {base : Nat} {e : TypeId} {size n g cap : Nat} {cs : List Value} (h : w.ownsRow base e size (.slice (some ⟨g, 0, none⟩) n cap) n cs) {j : Nat} (hj : j < n * size) : ∃ u, w.cell? ⟨g, j, none⟩ = some u := by
  rw [h.cellAt j hj]
  have := h.1
  exact ⟨_, List.getElem?_eq_getElem (by omega)⟩

set_option maxHeartbeats 400000 in
theorem markStringS_any (A : Option Addr) (n c base : Nat) (l : List ByteArray) (k : Int) (w : World) (h1 : 1 ≤ k) (h2 : k + n ≤ 100000000) (ho : w.ownsRow base 9 1 (.slice A n c) n (strs l)) :
    Calls Try.prog 40 #[.slice A n c, .int .i64 k] w fun e w' => e = .returned (.int .i64 (k + n)) ∧ w'.ownsRow base 9 1 (.slice A n c) n (strs (marks k n)) ∧ w.grownBy w' (Value.ownBlock (.slice A n c)) := by
  have HL := Lib.hid (show (strs l).length = n * 1 from ho.1)
  have HF := Lib.hid (show ∀ v : ByteArray, [Value.string v].length = 1 from fun _ => rfl)
  have hs : ∀ l : List ByteArray, strs l = l.flatMap (fun v => [Value.string v]) := fun l => by
    induction l with
    | nil => rfl
    | cons a l ih => simp only [strs, List.map_cons, List.flatMap_cons] at *; rw [ih]; rfl
  have HS := Lib.hid hs
  clear hs
  generalize strs l = Z at *
  go_enter Try.func40, Try.ntmps40
  go_wp2
  go_loopw [1, 5] (fun q i wr => ∃ j : Nat, j ≤ n ∧ i = .int .i64 j ∧ q = .int .i64 (k + j) ∧ wr.ownsRow base 9 1 (.slice A n c) n (fillTo (fun v => [Value.string v]) (marks k n) Z 1 j) ∧ w.grownBy wr (Value.ownBlock (.slice A n c))) (fun _ i _ => n - (intOf i).toNat)
  case atStart => exact ⟨0, Nat.zero_le _, rfl, by simp, by rw [fill_zero]; exact ho, World.grownBy.refl _ _⟩
  case round =>
    obtain ⟨j, hj, rfl, rfl, hor, hgr⟩ := hrel
    clear ho
    by_cases hlt : j < n
    · obtain ⟨g, cap, hv, hbg, hgl⟩ := hor.form (by omega)
      injection hv with hA _ hc
      subst hA
      clear hc
      have C := Lib.hid (markText_any (k + j) (by omega) (by omega) wr)
      have hfr : ∀ wa : World, Ext wr wa → (∃ u, wa.cell? ⟨g, j, none⟩ = some u) ∧ wa.frozen? ⟨g, j, none⟩ = false := fun wa he => ⟨own_cell (he.own hor) (by omega), (he.own hor).frozenAt j⟩
      have HFR := Lib.hid hfr
      clear hfr
      go_wp2_with (go_at_call 39; refine C.out.mono ?_; rintro e wa ⟨rfl, he1⟩; have hf1 := (HFR.out wa he1).2; obtain ⟨u1, hu1⟩ := (HFR.out wa he1).1)
      go_roundw
      case rel =>
        have ho2 := ((he1.own hor).stored j (.string (markS (k + j)))).1
        have hfs := fill_set (size := 1) (zs := Z) HF.out (marks_length k n) HL.out (marks_get k hlt)
        simp only [setL, Nat.mul_one] at hfs
        rw [hfs] at ho2
        exact ⟨j + 1, by omega, by go_num, by rw [Int.natCast_add]; simp only [Int.natCast_one, Int.add_assoc], ho2, grown_set (grown_ext hgr he1) _ _⟩
      case measure => simp [intOf]; omega
    · obtain rfl : j = n := by omega
      rw [fill_end (marks_length k j) HL.out, ← HS.out] at hor
      go_wp2
      go_ret
      exact ⟨rfl, hor, hgr⟩
set_option maxRecDepth 100000 in
set_option maxHeartbeats 400000 in
theorem markShadeS_any (g n c base : Nat) (cs : List Value) (k : Int) (w : World) (h1 : 1 ≤ k) (h2 : k + 5 * n ≤ 100000000) (ho : w.ownsRow base 46 5 (.slice (some ⟨g, 0, none⟩) n c) n cs) :
    Calls Try.prog 11 #[.slice (some ⟨g, 0, none⟩) n c, .int .i64 k] w fun e w' => e = .returned (.int .i64 (k + 5 * n)) ∧ w.grownBy w' (some g) := by
  go_enter Try.func11, Try.ntmps11
  go_wp2
  go_loopw [1, 5] (fun q i wr => ∃ (j : Nat) (cs : List Value), j ≤ n ∧ i = .int .i64 j ∧ q = .int .i64 (k + 5 * j) ∧ wr.ownsRow base 46 5 (.slice (some ⟨g, 0, none⟩) n c) n cs ∧ w.grownBy wr (some g)) (fun _ i _ => n - (intOf i).toNat)
  case atStart => exact ⟨0, cs, Nat.zero_le _, rfl, by simp, ho, World.grownBy.refl _ _⟩
  case round =>
    obtain ⟨j, cs, hj, rfl, rfl, hor, hgr⟩ := hrel
    clear ho
    by_cases hlt : j < n
    · have C := Lib.hid (markText_any (k + 5 * j) (by omega) (by omega) wr)
      have hfr : ∀ wa : World, Ext wr wa → ∀ t, t < 5 → (∃ u, wa.cell? ⟨g, j * 5 + t, none⟩ = some u) ∧ wa.frozen? ⟨g, j * 5 + t, none⟩ = false := fun wa he t ht => ⟨own_cell (he.own hor) (by omega), (he.own hor).frozenAt _⟩
      have HFR := Lib.hid hfr
      clear hfr
      go_wp2_with (go_at_call 39; refine C.out.mono ?_; rintro e wa ⟨rfl, he1⟩; obtain ⟨⟨u0, c0⟩, f0⟩ := HFR.out wa he1 0 (by omega); obtain ⟨⟨u1, c1⟩, f1⟩ := HFR.out wa he1 1 (by omega); obtain ⟨⟨u2, c2⟩, f2⟩ := HFR.out wa he1 2 (by omega); obtain ⟨⟨u3, c3⟩, f3⟩ := HFR.out wa he1 3 (by omega); obtain ⟨⟨u4, c4⟩, f4⟩ := HFR.out wa he1 4 (by omega); simp only [Nat.add_zero] at c0 f0)
      go_roundw
      case rel =>
        exact ⟨j + 1, _, by omega, by go_num, by (congr 1; omega), ((((((((((he1.own hor).stored _ _).1).stored _ _).1).stored _ _).1).stored _ _).1).stored _ _).1, grown_set (grown_set (grown_set (grown_set (grown_set (grown_ext hgr he1) _ _) _ _) _ _) _ _) _ _⟩
      case measure => simp [intOf]; omega
    · obtain rfl : j = n := by omega
      go_wp2
      go_ret
      exact ⟨rfl, hgr⟩
end Go.Proofs.Ytekfccfghmggmaa
