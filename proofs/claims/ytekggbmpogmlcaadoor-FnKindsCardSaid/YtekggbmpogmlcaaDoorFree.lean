/- A kind that no ban forbids: the reference's check. -/
import Derived.Test.YtekggbmpogmlcaaDoorKindI
namespace Go.Proofs.YtekggbmpogmlcaaDoor
open Go.RowKit
set_option linter.unusedVariables false
set_option linter.unusedSimpArgs false
attribute [local go_sem] ExtOf.cell

/-- A ban forbids a kind. -/
def banHit (ks : List Int) (b : Ban) : Bool := (sizeAt ks b.A == b.X) && (sizeAt ks b.B == b.Y)
def freeOf (bs : List Ban) (ks : List Int) : Bool := !(bs.any (banHit ks))
theorem freeOf_hit {bs : List Ban} {ks : List Int} {k : Nat} {x : Ban} (hx : bs[k]? = some x) (h : banHit ks x = true) : freeOf bs ks = false := by
  have : bs.any (banHit ks) = true := List.any_eq_true.2 ⟨x, List.mem_of_getElem? hx, h⟩
  simp [freeOf, this]
theorem freeOf_end {bs : List Ban} {ks : List Int} {m : Nat} (hm : bs.length = m) (h : noneTo (banHit ks) bs m) : freeOf bs ks = true := by
  have : bs.any (banHit ks) = false := by
    rw [List.any_eq_false]
    intro x hx
    have := h x (by rw [List.take_of_length_le (Nat.le_of_eq hm)]; exact hx)
    simp [this]
  simp [freeOf, this]
theorem fits_at {ss : List Int} {x : Ban} {n : Nat} (hn : ss.length = n) (h : banFits ss x = true) : 0 ≤ x.A ∧ x.A < n ∧ 0 ≤ x.B ∧ x.B < n := by
  simp only [banFits, Bool.and_eq_true, decide_eq_true_eq] at h
  omega

set_option maxRecDepth 100000 in
set_option maxHeartbeats 2000000 in
theorem l6Free_any (A : Option Addr) (n c : Nat) (B : Option Addr) (m d : Nat) (ss : List Int) (bs : List Ban) (K : Option Addr) (e : Nat) (ks : List Int) (w : World) (h : TabL w A n B m ss bs) (hf : ∀ b ∈ bs, banFits ss b = true) (hl : ks.length = n) (hk : Rd w K n 1 (ints ks)) :
    Calls Tryd.prog 32 #[.agg #[.slice A n c, .slice B m d], .slice K n e] w fun e w' => e = .returned (.bool (freeOf bs ks)) ∧ Ext w w' := by
  have hn := h.sm
  have hm := h.bl.small
  have HN := Lib.hid h.sl
  have HM := Lib.hid h.bl.len
  have HF := Lib.hid hf
  clear hf hl
  go_enter Tryd.func32, Tryd.ntmps32
  go_wp2
  go_loopw [5] (fun i wr => ∃ k : Nat, k ≤ m ∧ i = .int .i64 k ∧ noneTo (banHit ks) bs k ∧ Ext (w.alloc (.cells #[.slice A n c, .slice B m d] 27)) wr) (fun i _ => m - (intOf i).toNat)
  case atStart => exact ⟨0, Nat.zero_le _, rfl, noneTo_zero _ _, Ext.refl _⟩
  case round =>
    obtain ⟨k, hkm, rfl, hno, he⟩ := hrel
    have HNO := Lib.hid hno
    clear hno
    have eW := ((Ext.refl w).alloc (.cells #[.slice A n c, .slice B m d] 27)).trans he
    have t1 : wr.cell? ⟨w.heap.size, 1, none⟩ = some (.slice B m d) := he.cell1 (new_cell _ _ _ 1 _ rfl)
    have hz : w.heap.size < wr.heap.size := World.block_lt_of_cell? wr _ t1
    by_cases hlt : k < m
    · obtain ⟨b, off, x, rfl, hb, hx, g0, g1, g2, g3⟩ := (h.bl.ext eW).at_ hlt
      obtain ⟨f1, f2, f3, f4⟩ := fits_at HN.out (HF.out x (List.mem_of_getElem? hx.out))
      obtain ⟨p, q, r, s⟩ := x
      dsimp only at f1 f2 f3 f4 g0 g1 g2 g3
      obtain ⟨p, rfl⟩ : ∃ g : Nat, p = g := ⟨p.toNat, by omega⟩
      obtain ⟨r, rfl⟩ : ∃ g : Nat, r = g := ⟨r.toNat, by omega⟩
      have hpn : p < n := by omega
      have hrn : r < n := by omega
      obtain ⟨b1, off1, u, rfl, hb1, hu, gu⟩ := (hk.ext eW).int hpn
      obtain ⟨b2, off2, v, eA, hb2, hv, gv⟩ := (hk.ext eW).int hrn
      injection eA with eA
      injection eA with x1 x2
      subst x1; subst x2
      have hhit := Lib.hid (show banHit ks ⟨p, q, r, s⟩ = ((u == q) && (v == s)) by unfold banHit; rw [sizeAt_get hu.out, sizeAt_get hv.out])
      rcases chain2 (u == q) (v == s) with h6 | ⟨h6, h7⟩ | ⟨h6, h7⟩
      iterate 2
        · have hgood := Lib.hid (noneTo_succ HNO.out hx.out (hhit.out.trans (show _ = false by first | (rw [h6, h7]; rfl) | (rw [h6]; rfl))))
          go_wp2
          (refine wp_region_ext_lit (by kernel_rfl) (by kernel_rfl) ?_; (repeat (go_big_quiet_step ((fail)))); refine wpQuiet_nil ?_; rintro wq ⟨⟨_, heq⟩, rfl⟩; (try dsimp only))
          go_wp2
          go_roundw
          case rel => exact ⟨k + 1, by omega, by go_num, hgood.out, (he.alloc _).trans heq⟩
          case measure => simp [intOf]; omega
      · have hbad := Lib.hid (freeOf_hit hx.out (hhit.out.trans (show _ = true by rw [h6, h7]; rfl)))
        go_wp2
        (refine wp_region_ext_lit (by kernel_rfl) (by kernel_rfl) ?_; (repeat (go_big_quiet_step ((fail)))); refine wpQuiet_nil ?_; rintro wq ⟨⟨_, heq⟩, rfl⟩; (try dsimp only))
        go_wp2
        go_ret
        exact ⟨ret_bool hbad.out.symm, (eW.alloc _).trans heq⟩
    · obtain rfl : k = m := by omega
      have hend := Lib.hid (freeOf_end HM.out HNO.out)
      go_wp2
      go_ret
      exact ⟨ret_bool hend.out.symm, eW⟩
end Go.Proofs.YtekggbmpogmlcaaDoor
