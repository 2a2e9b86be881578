/- slices.Clone of a list of type Rate (made by wip/held.py). -/
import Derived.Test.YtkganlojknhajaaRateL
import Derived.Test.YtkganlojknhajaaOwn
import Derived.Lib.SliceRun
namespace Go.Proofs.Ytkganlojknhajaa
open Go.RowKit
set_option linter.unusedVariables false
set_option linter.unusedSimpArgs false
attribute [local go_sem] ExtOf.cell

theorem Rates_len (bs : List Rate) : (bs.flatMap Rate.cs).length = bs.length * 5 := flat_length Rate.cs 5 Rate.len bs
theorem Rates_one (bs : List Rate) : ∀ u ∈ bs.flatMap Rate.cs, u.oneCell' = true := by
  intro u hu
  obtain ⟨x, _, hx⟩ := List.mem_flatMap.1 hu
  simp only [Rate.cs, List.mem_cons, List.not_mem_nil, or_false] at hx
  rcases hx with rfl | rfl | rfl | rfl | rfl <;> rfl
set_option maxRecDepth 100000 in
set_option maxHeartbeats 1000000 in
theorem CloneRate_any (A : Option Addr) (n c : Nat) (bs : List Rate) (w : World) (hn : n ≤ 1048576) (hr : Rd w A n 5 (bs.flatMap Rate.cs)) :
    Calls Try.prog 72 #[.slice A n c] w fun e w' => ∃ A' c', e = .returned (.slice A' n c') ∧ w'.ownsRow w.heap.size 25 5 (.slice A' n c') n (bs.flatMap Rate.cs) ∧ Ext w w' := by
  obtain ⟨i0, hi, hz0, hz1, hz2⟩ := info_parts infoRate
  have hq : ∀ (w : World) (a : Option Addr) (n c n' c' : Nat), (binOp .eql 31 (.slice a n c) (.slice none n' c')).run Try.prog w = .ok (.bool a.isNone) w := fun w a n c n' c' => Lib.run_eql_slice_nil w _ _ a n c n' c' Try.underlying31
  have HONE := Lib.hid (Rates_one bs)
  generalize bs.flatMap Rate.cs = L at *
  cases A with
  | none =>
    obtain rfl : n = 0 := by
      rcases Nat.eq_zero_or_pos n with h | h
      · exact h
      · obtain ⟨b, off, e, _⟩ := hr.2 h; cases e
    obtain rfl : L = [] := by
      have := hr.1; exact List.eq_nil_of_length_eq_zero (by omega)
    go_enter Try.func72, Try.ntmps72
    go_wp2
    go_ret
    exact ⟨none, 0, rfl, own_nil _ _ _ _, Ext.refl _⟩
  | some a =>
    have HC : ∀ j u, L[j]? = some u → w.cell? (a.add j) = some u := fun j u hj => by
      have hl := (List.getElem?_eq_some_iff.1 hj).1
      have h1 := hr.1
      obtain ⟨b, off, e, _, hc⟩ := hr.2 (by omega)
      injection e with e; subst e
      rw [Addr.add_mid]; exact hc j u hj
    have HC := Lib.hid HC
    have HL := Lib.hid hr.1
    clear hr
    go_enter Try.func72, Try.ntmps72
    go_wp2_with (at_builtin; refine wpList_append_own _ rfl _ _ 31 rfl w.heap.size 25 i0 (.agg #[.int .i64 0, .int .i64 0, .int .i64 0, .int .i64 0, .int .i64 0]) 5 40 Try.underlying31 hi hz0 hz1 hz2 rfl (by decide) _ _ _ rfl (World.ownsRow_made w #[] 0 (Nat.le_refl _) (Nat.zero_le _) rfl) a n c L rfl ?qc1 ?qc2 ?qc3 ?qc4 ?qc5 ?qc6 ?_)
    case qc1 => exact HL.out
    case qc2 => exact fun j u hj => ((Ext.refl w).alloc _).cellp (HC.out j u hj)
    case qc3 => exact HONE.out
    case qc4 => unfold maxLen; omega
    case qc5 => omega
    case qc6 => simp
    intro v' w1 hown hgrow hnil
    go_wp2
    go_ret
    obtain ⟨A', c', rfl⟩ := own_slice hown
    exact ⟨A', c', by simp, hown, ((Ext.refl w).alloc _).grown hgrow (by intro k hk; simp [Value.ownBlock] at hk; omega)⟩
end Go.Proofs.Ytkganlojknhajaa
