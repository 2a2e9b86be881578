/- Marks in a list of type Rate, whichever form the slice has; and what is held there (made by wip/held.py). -/
import Derived.Test.YtkganlojknhajaaRateM
import Derived.Test.YtkganlojknhajaaIntS
import Derived.Test.YtkganlojknhajaaOwn
namespace Go.Proofs.Ytkganlojknhajaa
open Go.RowKit
set_option linter.unusedVariables false
set_option linter.unusedSimpArgs false
attribute [local go_sem] ExtOf.cell

theorem marks_next {k : Int} {Z : List Value} {p : Nat} (h : ∀ i, i < p → Z[i]? = some (.int .i64 (k + (i : Nat)))) (hp : p < Z.length) : ∀ i, i < p + 1 → (Z.set p (.int .i64 (k + (p : Nat))))[i]? = some (.int .i64 (k + (i : Nat))) := by
  intro i hi
  rw [List.getElem?_set]
  by_cases e : p = i
  · subst e; simp [hp]
  · rw [if_neg e]; exact h i (by omega)
theorem marks_Rate {k : Int} {Z : List Value} {j n : Nat} (hl : Z.length = n * 5) (hj : j < n) (h : ∀ i, i < 5 * j → Z[i]? = some (.int .i64 (k + (i : Nat)))) :
    ∀ i, i < 5 * (j + 1) → (((((Z.set (j * 5) (.int .i64 (k + (j * 5 : Nat)))).set (j * 5 + 1) (.int .i64 (k + (j * 5 + 1 : Nat)))).set (j * 5 + 2) (.int .i64 (k + (j * 5 + 2 : Nat)))).set (j * 5 + 3) (.int .i64 (k + (j * 5 + 3 : Nat)))).set (j * 5 + 4) (.int .i64 (k + (j * 5 + 4 : Nat))))[i]? = some (.int .i64 (k + (i : Nat))) := by
  intro i hi
  refine marks_next (p := j * 5 + 4) ?_ (by simp [hl]; omega) i (by omega)
  refine marks_next (p := j * 5 + 3) ?_ (by simp [hl]; omega)
  refine marks_next (p := j * 5 + 2) ?_ (by simp [hl]; omega)
  refine marks_next (p := j * 5 + 1) ?_ (by simp [hl]; omega)
  refine marks_next (p := j * 5) ?_ (by omega)
  intro i hi; exact h i (by omega)
theorem marks_Rate_all {k : Int} {Z : List Value} {n : Nat} (hl : Z.length = n * 5) (h : ∀ i, i < 5 * n → Z[i]? = some (.int .i64 (k + (i : Nat)))) : Z = ints (marksI k (n * 5)) := by
  refine List.ext_getElem? fun i => ?_
  by_cases hi : i < 5 * n
  · rw [h i hi, ints, List.getElem?_map, marksI_get k (show i < n * 5 by omega)]; rfl
  · rw [List.getElem?_eq_none (by omega), List.getElem?_eq_none (by simp [ints, marksI_length]; omega)]
set_option maxRecDepth 100000 in
set_option maxHeartbeats 1000000 in
theorem markRateS_v (A : Option Addr) (n c base : Nat) (cs : List Value) (k : Int) (w : World) (h1 : 1 ≤ k) (h2 : k + 5 * n ≤ 100000000) (ho : w.ownsRow base 25 5 (.slice A n c) n cs) :
    Calls Try.prog 30 #[.slice A n c, .int .i64 k] w fun e w' => e = .returned (.int .i64 (k + 5 * n)) ∧ w'.ownsRow base 25 5 (.slice A n c) n (ints (marksI k (n * 5))) ∧ w.grownBy w' (Value.ownBlock (.slice A n c)) := by
  go_enter Try.func30, Try.ntmps30
  go_wp2
  go_loopw [1, 5] (fun q i wr => ∃ (j : Nat) (cs : List Value), j ≤ n ∧ i = .int .i64 j ∧ q = .int .i64 (k + 5 * j) ∧ wr.ownsRow base 25 5 (.slice A n c) n cs ∧ (∀ i, i < 5 * j → cs[i]? = some (.int .i64 (k + (i : Nat)))) ∧ w.grownBy wr (Value.ownBlock (.slice A n c))) (fun _ i _ => n - (intOf i).toNat)
  case atStart => exact ⟨0, cs, Nat.zero_le _, rfl, by simp, ho, fun i hi => by omega, World.grownBy.refl _ _⟩
  case round =>
    obtain ⟨j, cs, hj, rfl, rfl, hor, hmk, hgr⟩ := hrel
    clear ho
    by_cases hlt : j < n
    · obtain ⟨g, cap, hv, hbg, hgl⟩ := hor.form (by omega)
      injection hv with hA _ hc
      subst hA
      clear hc
      have hfr : ∀ t, t < 5 → (∃ u, wr.cell? ⟨g, j * 5 + t, none⟩ = some u) ∧ wr.frozen? ⟨g, j * 5 + t, none⟩ = false := fun t ht => ⟨own_cell hor (by omega), hor.frozenAt _⟩
      obtain ⟨⟨u0, c0⟩, f0⟩ := hfr 0 (by omega); obtain ⟨⟨u1, c1⟩, f1⟩ := hfr 1 (by omega); obtain ⟨⟨u2, c2⟩, f2⟩ := hfr 2 (by omega); obtain ⟨⟨u3, c3⟩, f3⟩ := hfr 3 (by omega); obtain ⟨⟨u4, c4⟩, f4⟩ := hfr 4 (by omega)
      simp only [Nat.add_zero] at c0 f0
      clear hfr
      have HOR := Lib.hid hor
      have HMK := Lib.hid (marks_Rate (k := k) hor.1 hlt hmk)
      clear hor hmk
      go_wp2
      go_roundw
      case rel =>
        have hor := HOR.out
        have e0 : k + 5 * (j : Int) = k + ((j * 5 : Nat) : Int) := by omega
        have e1 : k + 5 * (j : Int) + 1 = k + ((j * 5 + 1 : Nat) : Int) := by omega
        have e2 : k + 5 * (j : Int) + 1 + 1 = k + ((j * 5 + 2 : Nat) : Int) := by omega
        have e3 : k + 5 * (j : Int) + 1 + 1 + 1 = k + ((j * 5 + 3 : Nat) : Int) := by omega
        have e4 : k + 5 * (j : Int) + 1 + 1 + 1 + 1 = k + ((j * 5 + 4 : Nat) : Int) := by omega
        refine ⟨j + 1, _, by omega, by go_num, by (congr 1; omega), (((((hor.stored _ _).1.stored _ _).1.stored _ _).1.stored _ _).1.stored _ _).1, ?_, grown_set (grown_set (grown_set (grown_set (grown_set (hgr) _ _) _ _) _ _) _ _) _ _⟩
        rw [e4, e3, e2, e1, e0]
        exact HMK.out
      case measure => simp [intOf]; omega
    · obtain rfl : j = n := by omega
      have he := Lib.hid (marks_Rate_all hor.1 hmk)
      clear hmk
      go_wp2
      go_ret
      exact ⟨rfl, by rw [← he.out]; exact hor, hgr⟩
set_option maxRecDepth 100000 in
set_option maxHeartbeats 1000000 in
theorem heldRateS_any (A : Option Addr) (n c : Nat) (k : Int) (w : World) (h1 : 1 ≤ k) (h2 : k + 5 * n ≤ 100000000) (hr : Rd w A n 5 (ints (marksI k (n * 5)))) :
    Calls Try.prog 42 #[.slice A n c, .int .i64 k] w fun e w' => e = .returned (.int .i64 (k + 5 * n)) ∧ Ext w w' := by
  go_enter Try.func42, Try.ntmps42
  go_wp2
  go_loopw [1, 5] (fun q i wr => ∃ j : Nat, j ≤ n ∧ i = .int .i64 j ∧ q = .int .i64 (k + 5 * j) ∧ Ext w wr) (fun _ i _ => n - (intOf i).toNat)
  case atStart => exact ⟨0, Nat.zero_le _, rfl, by simp, Ext.refl _⟩
  case round =>
    obtain ⟨j, hj, rfl, rfl, he⟩ := hrel
    by_cases hlt : j < n
    · obtain ⟨b, off, rfl, hb, hc⟩ := (hr.ext he).2 (by omega)
      have hx : ∀ t, t < 5 → wr.cell? ⟨b, off + (j * 5 + t), none⟩ = some (.int .i64 (k + 5 * j + t)) := fun t ht => hc _ _ (by
        rw [ints, List.getElem?_map, marksI_get k (show j * 5 + t < n * 5 by omega)]
        simp only [Option.map_some]
        congr 2; omega)
      have g0 : wr.cell? ⟨b, off + j * 5, none⟩ = some (.int .i64 (k + 5 * j)) := by simpa [Nat.add_assoc, Int.add_assoc] using hx 0 (by omega)
      have g1 : wr.cell? ⟨b, off + j * 5 + 1, none⟩ = some (.int .i64 (k + 5 * j + 1)) := by simpa [Nat.add_assoc, Int.add_assoc] using hx 1 (by omega)
      have g2 : wr.cell? ⟨b, off + j * 5 + 2, none⟩ = some (.int .i64 (k + 5 * j + 1 + 1)) := by simpa [Nat.add_assoc, Int.add_assoc] using hx 2 (by omega)
      have g3 : wr.cell? ⟨b, off + j * 5 + 3, none⟩ = some (.int .i64 (k + 5 * j + 1 + 1 + 1)) := by simpa [Nat.add_assoc, Int.add_assoc] using hx 3 (by omega)
      have g4 : wr.cell? ⟨b, off + j * 5 + 4, none⟩ = some (.int .i64 (k + 5 * j + 1 + 1 + 1 + 1)) := by simpa [Nat.add_assoc, Int.add_assoc] using hx 4 (by omega)
      clear hr hx hc
      go_wp2
      go_roundw
      case rel => exact ⟨j + 1, by omega, by go_num, by (congr 1; omega), he⟩
      case measure => simp [intOf]; omega
    · obtain rfl : j = n := by omega
      go_wp2
      go_ret
      exact ⟨rfl, he⟩
end Go.Proofs.Ytkganlojknhajaa
