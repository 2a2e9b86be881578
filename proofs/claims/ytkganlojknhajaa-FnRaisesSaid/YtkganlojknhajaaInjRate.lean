/- slices.Insert of one Rate, joined (made by wip/held.py). -/
import Derived.Test.YtkganlojknhajaaInsRate
namespace Go.Proofs.Ytkganlojknhajaa
open Go.RowKit
set_option linter.unusedVariables false
set_option linter.unusedSimpArgs false
attribute [local go_sem] ExtOf.cell

theorem InsertRate_any (A : Option Addr) (n c i vb base bv : Nat) (xs : List Rate) (x : Rate) (w : World) (hi : i ≤ n) (hn : n ≤ 1048576) (hb : base ≤ w.heap.size) (hl : xs.length = n) (ho : w.ownsRow base 25 5 (.slice A n c) n (xs.flatMap Rate.cs)) (hv : w.ownsRow bv 25 5 (.slice (some ⟨vb, 0, none⟩) 1 1) 1 x.cs) (hne : ∀ k, Value.ownBlock (.slice A n c) = some k → k ≠ vb) :
    Calls Try.prog 71 #[.slice A n c, .int .i64 i, .slice (some ⟨vb, 0, none⟩) 1 1] w fun e w' => ∃ A' c', e = .returned (.slice A' (n + 1) c') ∧ w'.ownsRow base 25 5 (.slice A' (n + 1) c') (n + 1) ((xs.take i ++ x :: xs.drop i).flatMap Rate.cs) ∧ w.grownBy w' (Value.ownBlock (.slice A n c)) := by
  rcases Nat.lt_or_ge i n with hlt | hge
  · obtain ⟨g, cap, hv', _, _⟩ := ho.form (by omega)
    have hA : A = some ⟨g, 0, none⟩ := by injection hv'
    clear hv'
    subst hA
    by_cases hr : n + 1 ≤ c
    · refine (InsertRate_shift g n c i vb base bv xs x w hlt hr hn hl ho hv (fun e => hne g rfl e.symm)).mono ?_
      rintro e w' ⟨rfl, h1, h2⟩
      exact ⟨_, _, rfl, h1, h2⟩
    · refine (InsertRate_grow g n c i vb base bv xs x w hlt (by omega) hn hb hl ho hv).mono ?_
      rintro e w' ⟨A', c', rfl, h1, h2⟩
      exact ⟨A', c', rfl, h1, grown_ext (World.grownBy.refl _ _) h2⟩
  · obtain rfl : i = n := by omega
    exact InsertRate_end A i c vb base bv xs x w hn hl ho hb hv
end Go.Proofs.Ytkganlojknhajaa
