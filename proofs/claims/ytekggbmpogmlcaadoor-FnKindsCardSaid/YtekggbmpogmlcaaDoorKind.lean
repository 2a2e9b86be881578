/- A kind of a table: the reference's check. -/
import Derived.Test.YtekggbmpogmlcaaDoorTabY
namespace Go.Proofs.YtekggbmpogmlcaaDoor
open Go.RowKit
set_option linter.unusedVariables false
set_option linter.unusedSimpArgs false
attribute [local go_sem] ExtOf.cell

def zbad (p : Int × Int) : Bool := !(inB p.1 0 (p.2 - 1))
/-- A list that is a kind of a table of these sizes. -/
def KindOk (ss ks : List Int) : Bool := decide (ks.length = ss.length) && (ks.zip ss).all fun p => !(zbad p)
theorem zip_get {ks ss : List Int} {i : Nat} {v s : Int} (h1 : ks[i]? = some v) (h2 : ss[i]? = some s) : (ks.zip ss)[i]? = some (v, s) := by
  rw [List.getElem?_zip_eq_some]; exact ⟨h1, h2⟩
theorem KindOk_len {ss ks : List Int} (h : ks.length ≠ ss.length) : KindOk ss ks = false := by simp [KindOk, h]
theorem KindOk_bad {ss ks : List Int} {i : Nat} {v s : Int} (h1 : ks[i]? = some v) (h2 : ss[i]? = some s) (h : inB v 0 (s - 1) = false) : KindOk ss ks = false := by
  have : ((ks.zip ss).all fun p => !(zbad p)) = false := by
    rw [List.all_eq_false]
    exact ⟨(v, s), List.mem_of_getElem? (zip_get h1 h2), by simp [zbad, h]⟩
  unfold KindOk; rw [this]; simp
theorem KindOk_end {ss ks : List Int} {n : Nat} (hk : ks.length = n) (hs : n ≤ ss.length) (h : noneTo zbad (ks.zip ss) n) : KindOk ss ks = decide (ks.length = ss.length) := by
  have : ((ks.zip ss).all fun p => !(zbad p)) = true := by
    rw [List.all_eq_true]
    intro p hp
    have := h p (by rw [List.take_of_length_le (by simp; omega)]; exact hp)
    simp [this]
  unfold KindOk; rw [this]; simp

set_option maxRecDepth 100000 in
set_option maxHeartbeats 2000000 in
theorem l6Kind_any (A : Option Addr) (n c : Nat) (B : Option Addr) (m d : Nat) (ss : List Int) (bs : List Ban) (K : Option Addr) (l e : Nat) (ks : List Int) (w : World) (h : TabL w A n B m ss bs) (hs : ∀ s ∈ ss, 1 ≤ s ∧ s ≤ 5) (hl : ks.length = l) (hl2 : l ≤ 1048576) (hk : Rd w K l 1 (ints ks)) :
    Calls Tryd.prog 30 #[.agg #[.slice A n c, .slice B m d], .slice K l e] w fun e w' => e = .returned (.bool (KindOk ss ks)) ∧ Ext w w' := by
  have hn := h.sm
  have HN := Lib.hid h.sl
  have HL := Lib.hid hl
  have HS := Lib.hid hs
  clear hs hl
  by_cases hln : l = n
  rotate_left
  · have hv := Lib.hid (KindOk_len (ss := ss) (ks := ks) (by rw [HN.out, HL.out]; exact hln))
    have d1 : ((l : Int) == n) = false := by simp; omega
    have d2 : decide ((l : Int) = n) = false := by simp; omega
    go_enter Tryd.func30, Tryd.ntmps30
    go_wp2
    go_ret
    exact ⟨ret_bool hv.out.symm, (by repeat (first | exact Ext.refl _ | assumption | refine Ext.trans ?_ (by assumption) | refine Ext.drew ?_ | refine Ext.drewN ?_ _ | refine Ext.alloc ?_ _))⟩
  subst hln
  go_enter Tryd.func30, Tryd.ntmps30
  go_wp2
  go_loopw [5] (fun i wr => ∃ k : Nat, k ≤ l ∧ i = .int .i64 k ∧ noneTo zbad (ks.zip ss) k ∧ Ext (w.alloc (.cells #[.slice A l c, .slice B m d] 27)) wr) (fun i _ => l - (intOf i).toNat)
  case atStart => exact ⟨0, Nat.zero_le _, rfl, noneTo_zero _ _, Ext.refl _⟩
  case round =>
    obtain ⟨k, hkl, rfl, hno, he⟩ := hrel
    have HNO := Lib.hid hno
    clear hno
    have eW := ((Ext.refl w).alloc (.cells #[.slice A l c, .slice B m d] 27)).trans he
    have t0 : wr.cell? ⟨w.heap.size, 0, none⟩ = some (.slice A l c) := he.cell1 (new_cell _ _ _ 0 _ rfl)
    have hz : w.heap.size < wr.heap.size := World.block_lt_of_cell? wr _ t0
    by_cases hlt : k < l
    · obtain ⟨b, off, s, eS, hb, hs, gs⟩ := (h.sr.ext eW).int hlt
      obtain ⟨b2, off2, v, eK, hb2, hv, gv⟩ := (hk.ext eW).int hlt
      subst eS; subst eK
      have hsb := HS.out s (List.mem_of_getElem? hs.out)
      have w1 : IntKind.i64.wrap (s - 1) = s - 1 := IntWalk.i64_in _ (by omega)
      cases hq : inB v 0 (s - 1)
      · have hbad := Lib.hid (KindOk_bad hv.out hs.out hq)
        go_wp2
        (refine wp_region_ext_lit (by kernel_rfl) (by kernel_rfl) ?_; (repeat (go_big_quiet_step (((go_at_call 41; exact ext_call_same (l1In_any _ _ _ _)))))); refine wpQuiet_nil ?_; rintro wq ⟨⟨_, heq⟩, rfl⟩; (try dsimp only))
        go_wp2
        go_ret
        exact ⟨ret_bool hbad.out.symm, eW.trans heq⟩
      · have hgood := Lib.hid (noneTo_succ HNO.out (zip_get hv.out hs.out) (by simp [zbad, hq]))
        go_wp2
        (refine wp_region_ext_lit (by kernel_rfl) (by kernel_rfl) ?_; (repeat (go_big_quiet_step (((go_at_call 41; exact ext_call_same (l1In_any _ _ _ _)))))); refine wpQuiet_nil ?_; rintro wq ⟨⟨_, heq⟩, rfl⟩; (try dsimp only))
        go_wp2
        go_roundw
        case rel => exact ⟨k + 1, by omega, by go_num, hgood.out, he.trans heq⟩
        case measure => simp [intOf]; omega
    · obtain rfl : k = l := by omega
      have hend := Lib.hid ((KindOk_end HL.out (by have := HN.out; omega) HNO.out).trans (show _ = true by rw [HL.out, HN.out]; simp))
      go_wp2
      go_ret
      exact ⟨ret_bool hend.out.symm, eW⟩
end Go.Proofs.YtekggbmpogmlcaaDoor
