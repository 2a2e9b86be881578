/- Valid tables: bans compared, a ban that fits. -/
import Derived.Test.YtekggbmpogmlcaaDoorTabV
import Derived.IntWalk
namespace Go.Proofs.YtekggbmpogmlcaaDoor
open Go.RowKit
set_option linter.unusedVariables false
set_option linter.unusedSimpArgs false
attribute [local go_sem] ExtOf.cell

theorem sizeAt_get {ss : List Int} {a : Nat} {s : Int} (h : ss[a]? = some s) : sizeAt ss (a : Int) = s := by simp [sizeAt, h]
set_option maxRecDepth 100000 in
set_option maxHeartbeats 1000000 in
theorem compareBans_any (y x : Ban) (w : World) :
    Calls Tryd.prog 37 #[.agg #[.int .i64 y.A, .int .i64 y.X, .int .i64 y.B, .int .i64 y.Y], .agg #[.int .i64 x.A, .int .i64 x.X, .int .i64 x.B, .int .i64 x.Y]] w fun e w' => e = .returned (.int .i64 (banOr y x)) ∧ Ext w w' := by
  generalize hor : banOr y x = od
  have HO := Lib.hid hor
  clear hor
  unfold banOr at HO
  go_enter Tryd.func37, Tryd.ntmps37
  go_wp2
  (refine wp_region_ext_tail 20 (by kernel_rfl) (by kernel_rfl) ?_; simp only [List.take_succ_cons, List.take_zero, List.drop_succ_cons, List.drop_zero]; (repeat (go_big_quiet_step (((go_at_call 48; exact ext_call_same (Compare_any _ _ _)))))); refine wpQuiet_nil ?_; rintro wq ⟨⟨_, heq⟩, rfl⟩; (try dsimp only))
  go_wp2_with (go_at_call 55; refine (Or4_any _ _ _ _ _ _).mono ?_; rintro e wc ⟨hev, rfl⟩; rw [HO.out] at hev; subst hev)
  go_ret
  exact ⟨rfl, (by repeat (first | exact Ext.refl _ | assumption | refine Ext.trans ?_ (by assumption) | refine Ext.drew ?_ | refine Ext.drewN ?_ _ | refine Ext.alloc ?_ _))⟩

set_option maxRecDepth 100000 in
set_option maxHeartbeats 2000000 in
theorem l6Ban_any (A : Option Addr) (n c : Nat) (ss : List Int) (x : Ban) (w : World) (hn : ss.length = n) (hn5 : n ≤ 5) (hs : ∀ s ∈ ss, 1 ≤ s ∧ s ≤ 5) (hr : Rd w A n 1 (ints ss)) :
    Calls Tryd.prog 42 #[.slice A n c, .agg #[.int .i64 x.A, .int .i64 x.X, .int .i64 x.B, .int .i64 x.Y]] w fun e w' => e = .returned (.bool (banFits ss x)) ∧ Ext w w' := by
  have HS := Lib.hid hs
  clear hs
  obtain ⟨p, q, r, s⟩ := x
  simp only
  have hfit := Lib.hid (show banFits ss ⟨p, q, r, s⟩ = (decide (0 ≤ p) && (decide (p < r) && (decide (r < n) && (inB q 0 (sizeAt ss p - 1) && inB s 0 (sizeAt ss r - 1))))) by unfold banFits; rw [hn])
  rcases chain3 (decide (0 ≤ p)) (decide (p < r)) (decide (r < (n : Int))) with h1 | ⟨h1, h2⟩ | ⟨h1, h2, h3⟩ | ⟨h1, h2, h3⟩
  iterate 3
    · have hv := Lib.hid (hfit.out.trans (show _ = false by simp only [*]; rfl))
      go_enter Tryd.func42, Tryd.ntmps42
      go_wp2
      (refine wp_region_ext_lit (by kernel_rfl) (by kernel_rfl) ?_; (repeat (go_big_quiet_step ((fail)))); refine wpQuiet_nil ?_; rintro wq ⟨⟨_, heq⟩, rfl⟩; (try dsimp only))
      go_wp2
      go_ret
      exact ⟨ret_bool hv.out.symm, (by repeat (first | exact Ext.refl _ | assumption | refine Ext.trans ?_ (by assumption) | refine Ext.drew ?_ | refine Ext.drewN ?_ _ | refine Ext.alloc ?_ _))⟩
  · have g1 : 0 ≤ p := by simpa using h1
    have g2 : p < r := by simpa using h2
    have g3 : r < n := by simpa using h3
    obtain ⟨p, rfl⟩ : ∃ g : Nat, p = g := ⟨p.toNat, by omega⟩
    obtain ⟨r, rfl⟩ : ∃ g : Nat, r = g := ⟨r.toNat, by omega⟩
    have hpn : p < n := by omega
    have hrn : r < n := by omega
    have hpi : (p : Int) < n := by omega
    obtain ⟨b, off, u, rfl, hb, hu, gu⟩ := hr.int hpn
    obtain ⟨b2, off2, v, eA, hb2, hv2, gv⟩ := hr.int hrn
    injection eA with eA
    injection eA with e1 e2
    subst e1; subst e2
    have hub := HS.out u (List.mem_of_getElem? hu.out)
    have hvb := HS.out v (List.mem_of_getElem? hv2.out)
    have w1 : IntKind.i64.wrap (u - 1) = u - 1 := IntWalk.i64_in _ (by omega)
    have w2 : IntKind.i64.wrap (v - 1) = v - 1 := IntWalk.i64_in _ (by omega)
    have hfit2 := Lib.hid (show banFits ss ⟨p, q, r, s⟩ = (inB q 0 (u - 1) && inB s 0 (v - 1)) by rw [hfit.out, h1, h2, h3, sizeAt_get hu.out, sizeAt_get hv2.out]; rfl)
    clear hr
    rcases chain2 (inB q 0 (u - 1)) (inB s 0 (v - 1)) with h4 | ⟨h4, h5⟩ | ⟨h4, h5⟩
    all_goals
      have hv := Lib.hid (hfit2.out.trans (show _ = _ by first | rw [h4, h5] | rw [h4]))
      go_enter Tryd.func42, Tryd.ntmps42
      go_wp2
      (refine wp_region_ext_lit (by kernel_rfl) (by kernel_rfl) ?_; (repeat (go_big_quiet_step (((go_at_call 41; exact ext_call_same (l1In_any _ _ _ _)))))); refine wpQuiet_nil ?_; rintro wq ⟨⟨_, heq⟩, rfl⟩; (try dsimp only))
      go_wp2
      go_ret
      exact ⟨ret_bool (by rw [hv.out]; rfl), (by repeat (first | exact Ext.refl _ | assumption | refine Ext.trans ?_ (by assumption) | refine Ext.drew ?_ | refine Ext.drewN ?_ _ | refine Ext.alloc ?_ _))⟩
end Go.Proofs.YtekggbmpogmlcaaDoor
