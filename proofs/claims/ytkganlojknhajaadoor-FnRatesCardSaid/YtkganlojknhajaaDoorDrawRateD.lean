/- The draws of the statements on rates. -/
import Derived.Test.YtkganlojknhajaaDoorDrawRates
namespace Go.Proofs.YtkganlojknhajaaDoor
open Go.RowKit
set_option linter.unusedVariables false
set_option linter.unusedSimpArgs false
attribute [local go_sem] ExtOf.cell

theorem own_le {w : World} {base T size n c : Nat} {A : Option Addr} {cs : List Value} (h : w.ownsRow base T size (.slice A n c) n cs) : n ≤ c := by
  rcases h.2 with ⟨h1, h2⟩ | ⟨g, cap, cur, h1, _, _, h4, _⟩
  · omega
  · injection h1 with _ _ e3; omega
/-- What is drawn of rates: a list. -/
def DrawnL (B : Option Addr) (m mc : Nat) (w' : World) : Prop := ∃ xs : List Rate, m ≤ mc ∧ RateL w' B m xs
theorem DrawnL.of {w0 w : World} {g b : Nat} {A : Option Addr} {n c : Nat} {xs : List Rate} (h : DSt w0 g b 26 5 A n c (xs.flatMap Rate.cs) w) (hx : ∀ x ∈ xs, RateSm x) (hn : n ≤ 40) : DrawnL A n c w :=
  ⟨xs, own_le h.row, by have := h.row.1; rw [flat_length Rate.cs 5 Rate.len] at this; omega, by omega, fun x hm => (hx x hm).wf, Rd.own h.row⟩
set_option maxHeartbeats 1000000 in
theorem rateDay_any (g b : Nat) (w : World) (h : Cur w g b) (hb : b ≤ 1000000) :
    Calls Tryd.prog 39 #[.pointer (some ⟨g, 0, none⟩)] w (CurPost g (b + 2) w (IntIn (-1) 4001)) := by
  go_enter Tryd.func39, Tryd.ntmps39
  go_wp2_with fail
  refine (among_at g b _ [0, 1, 4, 5, 6, 9, 10, 11, 14, 15, 20, 25, 4000, 4001, -1] (-1) 4001 _ _ h rfl (by decide) (by omega) (by decide) (by decide)).mono ?_
  rintro e w1 ⟨v, rfl, ⟨u, rfl, u1, u2⟩, C1, G1⟩
  go_wp2
  go_ret
  exact ⟨_, rfl, ⟨u, rfl, u1, u2⟩, C1, G1⟩
end Go.Proofs.YtkganlojknhajaaDoor
