/- A kind that no ban forbids: the program's check. -/
import Derived.Test.YtekggbmpogmlcaaDoorFree
namespace Go.Proofs.YtekggbmpogmlcaaDoor
open Go.RowKit
set_option linter.unusedVariables false
set_option linter.unusedSimpArgs false
attribute [local go_sem] ExtOf.cell

set_option maxHeartbeats 1000000 in
theorem compat1_any (K : Option Addr) (n e : Nat) (ss ks : List Int) (x : Ban) (b0 : Nat) (w : World) (c0 : w.cell? ⟨b0, 0, none⟩ = some (.slice K n e)) (hn : n ≤ 1048576) (hs : ss.length = n) (hf : banFits ss x = true) (hk : Rd w K n 1 (ints ks)) (hl : ks.length = n) :
    Calls Tryd.prog 47 #[.agg #[.int .i64 x.A, .int .i64 x.X, .int .i64 x.B, .int .i64 x.Y], .pointer (some ⟨b0, 0, none⟩)] w fun e w' => e = .returned (.bool (banHit ks x)) ∧ Ext w w' := by
  have la : b0 < w.heap.size := World.block_lt_of_cell? w _ c0
  obtain ⟨f1, f2, f3, f4⟩ := fits_at hs hf
  clear hf hs hl
  obtain ⟨p, q, r, s⟩ := x
  dsimp only at f1 f2 f3 f4
  obtain ⟨p, rfl⟩ : ∃ g : Nat, p = g := ⟨p.toNat, by omega⟩
  obtain ⟨r, rfl⟩ : ∃ g : Nat, r = g := ⟨r.toNat, by omega⟩
  have hpn : p < n := by omega
  have hrn : r < n := by omega
  obtain ⟨b1, off1, u, rfl, hb1, hu, gu⟩ := hk.int hpn
  obtain ⟨b2, off2, v, eA, hb2, hv, gv⟩ := hk.int hrn
  injection eA with eA
  injection eA with x1 x2
  subst x1; subst x2
  have hhit := Lib.hid (show banHit ks ⟨p, q, r, s⟩ = ((u == q) && (v == s)) by unfold banHit; rw [sizeAt_get hu.out, sizeAt_get hv.out])
  clear hk
  rcases chain2 (u == q) (v == s) with h6 | ⟨h6, h7⟩ | ⟨h6, h7⟩
  all_goals
    have hv := Lib.hid (hhit.out.trans (show _ = _ by first | rw [h6, h7] | rw [h6]))
    go_enter Tryd.func47, Tryd.ntmps47
    go_wp2
    (refine wp_region_ext_lit (by kernel_rfl) (by kernel_rfl) ?_; (repeat (go_big_quiet_step ((fail)))); refine wpQuiet_nil ?_; rintro wq ⟨⟨_, heq⟩, rfl⟩; (try dsimp only))
    go_wp2
    go_ret
    exact ⟨ret_bool (by rw [hv.out]; rfl), (by repeat (first | exact Ext.refl _ | assumption | refine Ext.trans ?_ (by assumption) | refine Ext.drew ?_ | refine Ext.drewN ?_ _ | refine Ext.alloc ?_ _))⟩
set_option maxRecDepth 100000 in
set_option maxHeartbeats 1000000 in
theorem IndexHit_any (B : Option Addr) (m d : Nat) (bs : List Ban) (K : Option Addr) (n e : Nat) (ss ks : List Int) (b0 : Nat) (w : World) (h : BanL w B m bs) (c0 : w.cell? ⟨b0, 0, none⟩ = some (.slice K n e)) (hn : n ≤ 1048576) (hs : ss.length = n) (hf : ∀ b ∈ bs, banFits ss b = true) (hk : Rd w K n 1 (ints ks)) (hl : ks.length = n) :
    Calls Tryd.prog 57 #[.slice B m d, .func (.func 47) #[] #[.pointer (some ⟨b0, 0, none⟩)]] w fun e w' => e = .returned (.int .i64 (firstAt (banHit ks) bs)) ∧ Ext w w' := by
  have C := Lib.hid (fun (x : Ban) (hx : x ∈ bs) (w' : World) (he : Ext w w') => compat1_any K n e ss ks x b0 w' (he.cell1 c0) hn hs (hf x hx) (hk.ext he) hl)
  clear c0 hf hs hl hk
  have hsm := h.small
  go_enter Tryd.func57, Tryd.ntmps57
  go_wp2
  go_loopw [8] (fun i wr => ∃ k : Nat, k ≤ m ∧ i = .int .i64 k ∧ noneTo (banHit ks) bs k ∧ Ext w wr) (fun i _ => m - (intOf i).toNat)
  case atStart => exact ⟨0, Nat.zero_le _, rfl, noneTo_zero _ _, Ext.refl _⟩
  case round =>
    obtain ⟨k, hk, rfl, hno, he⟩ := hrel
    have HN := Lib.hid hno
    clear hno
    by_cases hlt : k < m
    · obtain ⟨b', off, x, rfl, hb, hx, g0, g1, g2, g3⟩ := (h.ext he).at_ hlt
      have C1 := Lib.hid (C.out x (List.mem_of_getElem? hx.out) wr he)
      cases ht : banHit ks x
      · go_wp2_with (go_at_call 47; refine C1.out.mono ?_; rintro e wa ⟨rfl, he1⟩; rw [ht])
        go_roundw
        case rel => exact ⟨k + 1, by omega, by go_num, noneTo_succ HN.out hx.out ht, he.trans he1⟩
        case measure => simp [intOf]; omega
      · go_wp2_with (go_at_call 47; refine C1.out.mono ?_; rintro e wa ⟨rfl, he1⟩; rw [ht])
        go_ret
        exact ⟨ret_int (firstAt_hit HN.out hx.out ht).symm, he.trans he1⟩
    · obtain rfl : k = m := by omega
      go_wp2
      go_ret
      exact ⟨ret_int (firstAt_miss (by have := h.len; omega) HN.out).symm, he⟩
set_option maxRecDepth 100000 in
set_option maxHeartbeats 1000000 in
theorem ContainsHit_any (B : Option Addr) (m d : Nat) (bs : List Ban) (K : Option Addr) (n e : Nat) (ss ks : List Int) (b0 : Nat) (w : World) (h : BanL w B m bs) (c0 : w.cell? ⟨b0, 0, none⟩ = some (.slice K n e)) (hn : n ≤ 1048576) (hs : ss.length = n) (hf : ∀ b ∈ bs, banFits ss b = true) (hk : Rd w K n 1 (ints ks)) (hl : ks.length = n) :
    Calls Tryd.prog 46 #[.slice B m d, .func (.func 47) #[] #[.pointer (some ⟨b0, 0, none⟩)]] w fun e w' => e = .returned (.bool (bs.any (banHit ks))) ∧ Ext w w' := by
  have C := Lib.hid (IndexHit_any B m d bs K n e ss ks b0 w h c0 hn hs hf hk hl)
  clear c0 hf hs hl hk
  have hlo := firstAt_lo (banHit ks) bs
  have ha := Lib.hid (firstAt_any (banHit ks) bs)
  generalize firstAt (banHit ks) bs = f at *
  go_enter Tryd.func46, Tryd.ntmps46
  go_wp2_with (go_at_call 57; refine C.out.mono ?_; rintro e wa ⟨rfl, he1⟩)
  go_ret
  exact ⟨ret_bool ha.out, he1⟩
set_option maxRecDepth 100000 in
set_option maxHeartbeats 1000000 in
theorem compatible_any (g : Nat) (A : Option Addr) (n c : Nat) (B : Option Addr) (m d : Nat) (ss : List Int) (bs : List Ban) (K : Option Addr) (e : Nat) (ks : List Int) (w : World) (h : TabL w A n B m ss bs) (p1 : w.cell? ⟨g, 1, none⟩ = some (.slice B m d)) (hf : ∀ b ∈ bs, banFits ss b = true) (hl : ks.length = n) (hk : Rd w K n 1 (ints ks)) :
    Calls Tryd.prog 27 #[.pointer (some ⟨g, 0, none⟩), .slice K n e] w fun e w' => e = .returned (.bool (freeOf bs ks)) ∧ Ext w w' := by
  have eW := (Ext.refl w).alloc (.cells #[.slice K n e] 24)
  have C := Lib.hid (ContainsHit_any B m d bs K n e ss ks _ _ (h.bl.ext eW) (new_cell w _ 24 0 _ rfl) h.sm h.sl hf (hk.ext eW) hl)
  have hg : g < w.heap.size := World.block_lt_of_cell? w _ p1
  clear hf hl hk
  unfold freeOf
  go_enter Tryd.func27, Tryd.ntmps27
  go_wp2_with (go_at_call 46; refine C.out.mono ?_; rintro e wa ⟨rfl, he1⟩)
  go_ret
  exact ⟨rfl, eW.trans he1⟩
end Go.Proofs.YtekggbmpogmlcaaDoor
