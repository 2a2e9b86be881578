/- Marks in lists of type Ban (made by wip/lists.py). -/
import Derived.Test.YtphalkeokpnpfaaBanL
import Derived.Test.YtphalkeokpnpfaaMark2
namespace Go.Proofs.Ytphalkeokpnpfaa
open Go.RowKit
set_option linter.unusedVariables false
set_option linter.unusedSimpArgs false
attribute [local go_sem] ExtOf.cell

set_option maxRecDepth 100000 in
set_option maxHeartbeats 1000000 in
theorem markBanS_any (g n c base : Nat) (cs : List Value) (k : Int) (w : World) (h1 : 1 ≤ k) (h2 : k + 4 * n ≤ 100000000) (ho : w.ownsRow base 57 4 (.slice (some ⟨g, 0, none⟩) n c) n cs) :
    Calls Try.prog 66 #[.slice (some ⟨g, 0, none⟩) n c, .int .i64 k] w fun e w' => e = .returned (.int .i64 (k + 4 * n)) ∧ w.grownBy w' (some g) := by
  go_enter Try.func66, Try.ntmps66
  go_wp2
  go_loopw [1, 5] (fun q i wr => ∃ (j : Nat) (cs : List Value), j ≤ n ∧ i = .int .i64 j ∧ q = .int .i64 (k + 4 * j) ∧ wr.ownsRow base 57 4 (.slice (some ⟨g, 0, none⟩) n c) n cs ∧ w.grownBy wr (some g)) (fun _ i _ => n - (intOf i).toNat)
  case atStart => exact ⟨0, cs, Nat.zero_le _, rfl, by simp, ho, World.grownBy.refl _ _⟩
  case round =>
    obtain ⟨j, cs, hj, rfl, rfl, hor, hgr⟩ := hrel
    clear ho
    by_cases hlt : j < n
    · have hfr : ∀ t, t < 4 → (∃ u, wr.cell? ⟨g, j * 4 + t, none⟩ = some u) ∧ wr.frozen? ⟨g, j * 4 + t, none⟩ = false := fun t ht => ⟨own_cell hor (by omega), hor.frozenAt _⟩
      obtain ⟨⟨u0, c0⟩, f0⟩ := hfr 0 (by omega); obtain ⟨⟨u1, c1⟩, f1⟩ := hfr 1 (by omega); obtain ⟨⟨u2, c2⟩, f2⟩ := hfr 2 (by omega); obtain ⟨⟨u3, c3⟩, f3⟩ := hfr 3 (by omega)
      simp only [Nat.add_zero] at c0 f0
      clear hfr
      have HOR := Lib.hid hor
      clear hor
      go_wp2
      go_roundw
      case rel =>
        have hor := HOR.out
        exact ⟨j + 1, _, by omega, by go_num, by (congr 1; omega), ((((hor.stored _ _).1.stored _ _).1.stored _ _).1.stored _ _).1, grown_set (grown_set (grown_set (grown_set (hgr) _ _) _ _) _ _) _ _⟩
      case measure => simp [intOf]; omega
    · obtain rfl : j = n := by omega
      go_wp2
      go_ret
      exact ⟨rfl, hgr⟩
end Go.Proofs.Ytphalkeokpnpfaa
