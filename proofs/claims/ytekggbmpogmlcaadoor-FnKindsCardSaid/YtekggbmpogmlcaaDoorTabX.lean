/- Valid tables: the program's and the reference's checks. -/
import Derived.Test.YtekggbmpogmlcaaDoorTabW
import Derived.Test.YtekggbmpogmlcaaDoorFirst
namespace Go.Proofs.YtekggbmpogmlcaaDoor
open Go.RowKit
set_option linter.unusedVariables false
set_option linter.unusedSimpArgs false
attribute [local go_sem] ExtOf.cell

def sizeBad (s : Int) : Bool := !(inB s 1 5)
theorem TabOk_len {ss : List Int} {bs : List Ban} (h : inB ss.length 1 5 = false) : TabOk ss bs = false := by unfold TabOk; rw [h]; rfl
theorem TabOk_many {ss : List Int} {bs : List Ban} (h : decide (bs.length ≤ 20) = false) : TabOk ss bs = false := by unfold TabOk; rw [h]; simp
theorem TabOk_size {ss : List Int} {bs : List Ban} {k : Nat} {s : Int} (hx : ss[k]? = some s) (hp : inB s 1 5 = false) : TabOk ss bs = false := by
  have : sizesOk ss = false := by
    unfold sizesOk
    rw [List.all_eq_false]
    exact ⟨s, List.mem_of_getElem? hx, by rw [hp]; simp⟩
  unfold TabOk; rw [this]; simp
theorem TabOk_ban {ss : List Int} {bs : List Ban} {k : Nat} {x : Ban} (hx : bs[k]? = some x) (hp : BanP ss (before bs k) x = false) : TabOk ss bs = false := by
  unfold TabOk; rw [adj_bad hx hp]; simp
theorem sizes_all {ss : List Int} {n : Nat} (hn : ss.length = n) (h : noneTo sizeBad ss n) : (∀ s ∈ ss, 1 ≤ s ∧ s ≤ 5) ∧ sizesOk ss = true := by
  have k : ∀ s ∈ ss, inB s 1 5 = true := fun s hs => by
    have := h s (by rw [List.take_of_length_le (Nat.le_of_eq hn)]; exact hs)
    unfold sizeBad at this
    simpa using this
  exact ⟨fun s hs => inB_iff.1 (k s hs), List.all_eq_true.2 k⟩
theorem TabOk_yes {ss : List Int} {bs : List Ban} {n m : Nat} (hn : ss.length = n) (hm : bs.length = m) (h1 : inB n 1 5 = true) (h2 : m ≤ 20) (h3 : sizesOk ss = true) (h4 : adjTo (BanP ss) bs m) : TabOk ss bs = true := by
  subst hn; subst hm
  unfold TabOk
  rw [h1, h3, adj_end h4]
  simp [h2]
theorem BanP_zero {ss : List Int} {bs : List Ban} {x : Ban} : BanP ss (before bs 0) x = banFits ss x := by simp [BanP, before]
theorem BanP_pos {ss : List Int} {bs : List Ban} {k : Nat} {x y : Ban} (h : 0 < k) (hy : bs[k - 1]? = some y) : BanP ss (before bs k) x = (banFits ss x && banLess y x) := by
  rw [before_pos h hy]; rfl
theorem BanP_no {ss : List Int} {q : Option Ban} {x : Ban} (h : banFits ss x = false) : BanP ss q x = false := by simp [BanP, h]
theorem BanP_at {ss : List Int} {bs : List Ban} {k j : Nat} {y : Ban} (h : adjTo (BanP ss) bs k) (hj : j < k) (hy : bs[j]? = some y) : banFits ss y = true := by
  have hm : y ∈ bs.take k := by
    rw [List.mem_iff_getElem?]; exact ⟨j, by rw [List.getElem?_take, if_pos hj, hy]⟩
  exact adj_all (p := BanP ss) (fun q x hp => by simp only [BanP, Bool.and_eq_true] at hp; exact hp.1) h y hm
set_option maxHeartbeats 400000 in
theorem l6Code_any (ss : List Int) (x : Ban) (hs : ∀ s ∈ ss, 1 ≤ s ∧ s ≤ 5) (hl : ss.length ≤ 5) (hx : banFits ss x = true) (w : World) :
    Calls Tryd.prog 43 #[.agg #[.int .i64 x.A, .int .i64 x.X, .int .i64 x.B, .int .i64 x.Y]] w fun e w' => e = .returned (.int .i64 (banCode x)) ∧ Ext w w' := by
  obtain ⟨⟨a1, a2, a3, a4⟩, ⟨a5, a6⟩, ⟨a7, a8⟩, _⟩ := banFits_all hs hl hx
  clear hs
  unfold banCode
  go_enter Tryd.func43, Tryd.ntmps43
  go_wp2
  go_ret
  exact ⟨ret_int (by omega), (by repeat (first | exact Ext.refl _ | assumption | refine Ext.trans ?_ (by assumption) | refine Ext.drew ?_ | refine Ext.drewN ?_ _ | refine Ext.alloc ?_ _))⟩

set_option maxRecDepth 100000 in
set_option maxHeartbeats 2000000 in
theorem l6Good_any (A : Option Addr) (n c : Nat) (B : Option Addr) (m d : Nat) (ss : List Int) (bs : List Ban) (w : World) (h : TabL w A n B m ss bs) :
    Calls Tryd.prog 23 #[.agg #[.slice A n c, .slice B m d]] w fun e w' => e = .returned (.bool (TabOk ss bs)) ∧ Ext w w' := by
  have hn := h.sm
  have hm := h.bl.small
  have HN := Lib.hid h.sl
  have HM := Lib.hid h.bl.len
  cases h1 : inB (n : Int) 1 5
  · have hv := Lib.hid (TabOk_len (bs := bs) (show inB (ss.length : Int) 1 5 = false by rw [HN.out]; exact h1))
    go_enter Tryd.func23, Tryd.ntmps23
    go_wp2_with (go_at_call 41; refine (l1In_any _ _ _ _).mono ?_; rintro e w' ⟨rfl, rfl⟩)
    go_ret
    exact ⟨ret_bool hv.out.symm, (by repeat (first | exact Ext.refl _ | assumption | refine Ext.trans ?_ (by assumption) | refine Ext.drew ?_ | refine Ext.drewN ?_ _ | refine Ext.alloc ?_ _))⟩
  by_cases h2 : m ≤ 20
  rotate_left
  · have hv := Lib.hid (TabOk_many (ss := ss) (show decide (bs.length ≤ 20) = false by rw [HM.out]; simpa using h2))
    have d1 : decide ((20 : Int) < m) = true := by simp; omega
    have d2 : decide (20 < m) = true := by simp; omega
    go_enter Tryd.func23, Tryd.ntmps23
    go_wp2_with (go_at_call 41; refine (l1In_any _ _ _ _).mono ?_; rintro e w' ⟨rfl, rfl⟩)
    go_ret
    exact ⟨ret_bool hv.out.symm, (by repeat (first | exact Ext.refl _ | assumption | refine Ext.trans ?_ (by assumption) | refine Ext.drew ?_ | refine Ext.drewN ?_ _ | refine Ext.alloc ?_ _))⟩
  have hn5 := inB_iff.1 h1
  have d1 : decide ((20 : Int) < m) = false := by simp; omega
  have d2 : decide (20 < m) = false := by simp; omega
  go_enter Tryd.func23, Tryd.ntmps23
  go_wp2_with (go_at_call 41; refine (l1In_any _ _ _ _).mono ?_; rintro e w' ⟨rfl, rfl⟩)
  go_loopw [3] (fun i wr => ∃ k : Nat, k ≤ n ∧ i = .int .i64 k ∧ noneTo sizeBad ss k ∧ Ext (w.alloc (.cells #[.slice A n c, .slice B m d] 27)) wr) (fun i _ => n - (intOf i).toNat)
  case atStart => exact ⟨0, Nat.zero_le _, rfl, noneTo_zero _ _, Ext.refl _⟩
  case round =>
    obtain ⟨k, hk, rfl, hno, he⟩ := hrel
    have HNO := Lib.hid hno
    clear hno
    have eW := ((Ext.refl w).alloc (.cells #[.slice A n c, .slice B m d] 27)).trans he
    have t0 : wr.cell? ⟨w.heap.size, 0, none⟩ = some (.slice A n c) := he.cell1 (new_cell _ _ _ 0 _ rfl)
    have t1 : wr.cell? ⟨w.heap.size, 1, none⟩ = some (.slice B m d) := he.cell1 (new_cell _ _ _ 1 _ rfl)
    by_cases hlt : k < n
    · obtain ⟨b, off, v, rfl, hb, hv, gv⟩ := (h.sr.ext eW).int hlt
      cases hq : inB v 1 5
      · have hbad := Lib.hid (TabOk_size (bs := bs) hv.out hq)
        go_wp2_with (go_at_call 41; refine (l1In_any _ _ _ _).mono ?_; rintro e w' ⟨rfl, rfl⟩)
        go_ret
        exact ⟨ret_bool hbad.out.symm, eW⟩
      · have hs := Lib.hid (noneTo_succ HNO.out hv.out (by unfold sizeBad; rw [hq]; rfl))
        go_wp2_with (go_at_call 41; refine (l1In_any _ _ _ _).mono ?_; rintro e w' ⟨rfl, rfl⟩)
        go_roundw
        case rel => exact ⟨k + 1, by omega, by go_num, hs.out, he⟩
        case measure => simp [intOf]; omega
    · have hkn : n ≤ k := by omega
      obtain ⟨hsz, hsok⟩ := sizes_all HN.out (show noneTo sizeBad ss n by rw [show n = k by omega]; exact HNO.out)
      have HSZ := Lib.hid hsz
      have HSOK := Lib.hid hsok
      clear hsz hsok HNO
      have hl5 : ss.length ≤ 5 := by have := HN.out; omega
      go_wp2
      go_loopw [4] (fun i wr => ∃ j : Nat, j ≤ m ∧ i = .int .i64 j ∧ adjTo (BanP ss) bs j ∧ Ext (w.alloc (.cells #[.slice A n c, .slice B m d] 27)) wr) (fun i _ => m - (intOf i).toNat)
      case atStart => exact ⟨0, Nat.zero_le _, rfl, adjTo_zero _ _, he⟩
      case round =>
        clear t0 t1 eW he
        obtain ⟨j, hj, rfl, ha, he⟩ := hrel
        have HA := Lib.hid ha
        clear ha
        have eW := ((Ext.refl w).alloc (.cells #[.slice A n c, .slice B m d] 27)).trans he
        have t0 : wr.cell? ⟨w.heap.size, 0, none⟩ = some (.slice A n c) := he.cell1 (new_cell _ _ _ 0 _ rfl)
        have t1 : wr.cell? ⟨w.heap.size, 1, none⟩ = some (.slice B m d) := he.cell1 (new_cell _ _ _ 1 _ rfl)
        have hz : w.heap.size < wr.heap.size := World.block_lt_of_cell? wr _ t0
        by_cases hjm : j < m
        · obtain ⟨b, off, x, rfl, hb, hx, g0, g1, g2, g3⟩ := (h.bl.ext eW).at_ hjm
          have hSR := h.sr.ext eW
          have hn5' : n ≤ 5 := by omega
          cases hs : banFits ss x
          · have hbad := Lib.hid (TabOk_ban hx.out (BanP_no hs))
            go_wp2
            (refine wp_region_ext_lit (by kernel_rfl) (by kernel_rfl) ?_; (repeat (go_big_quiet_step ((first | (go_at_call 42; exact ext_call (l6Ban_any _ _ _ ss _ _ HN.out (by omega) HSZ.out (hSR.ext (ExtOf.ext _)))) | (go_at_call 43; exact ext_call (l6Code_any ss _ HSZ.out (by omega) (by assumption) _)))))); refine wpQuiet_nil ?_; rintro wq ⟨⟨_, heq⟩, rfl⟩; (try dsimp only))
            go_wp2
            go_ret
            exact ⟨ret_bool hbad.out.symm, eW.trans heq⟩
          · rcases Nat.eq_zero_or_pos j with hj0 | hpos
            · have hgood := Lib.hid (adjTo_succ HA.out hx.out (by rw [hj0, BanP_zero]; exact hs))
              have z1 : decide (0 < (j : Int)) = false := by simp; omega
              have z2 : decide (0 < j) = false := by simp; omega
              clear hj0
              go_wp2
              (refine wp_region_ext_lit (by kernel_rfl) (by kernel_rfl) ?_; (repeat (go_big_quiet_step ((first | (go_at_call 42; exact ext_call (l6Ban_any _ _ _ ss _ _ HN.out (by omega) HSZ.out (hSR.ext (ExtOf.ext _)))) | (go_at_call 43; exact ext_call (l6Code_any ss _ HSZ.out (by omega) (by assumption) _)))))); refine wpQuiet_nil ?_; rintro wq ⟨⟨_, heq⟩, rfl⟩; (try dsimp only))
              go_wp2
              go_roundw
              case rel => exact ⟨j + 1, by omega, by go_num, hgood.out, he.trans heq⟩
              case measure => simp [intOf]; omega
            · obtain ⟨b', off', y, eA, hb', hy, q0, q1, q2, q3⟩ := (h.bl.ext eW).at_ (show j - 1 < m by omega)
              injection eA with eA
              injection eA with e1 e2
              subst e1; subst e2
              have hyg : banFits ss y = true := BanP_at HA.out (by omega) hy.out
              have hP := BanP_pos (ss := ss) (x := x) hpos hy.out
              rw [banLess_code HSZ.out hl5 hs hyg, hs, Bool.true_and] at hP
              have z1 : decide (0 < (j : Int)) = true := by simp; omega
              have z2 : decide (0 < j) = true := by simp; omega
              cases hcd : decide (banCode x ≤ banCode y)
              · have hgood := Lib.hid (adjTo_succ HA.out hx.out (by rw [hP, hcd]; rfl))
                clear hP
                go_wp2
                (refine wp_region_ext_lit (by kernel_rfl) (by kernel_rfl) ?_; (repeat (go_big_quiet_step ((first | (go_at_call 42; exact ext_call (l6Ban_any _ _ _ ss _ _ HN.out (by omega) HSZ.out (hSR.ext (ExtOf.ext _)))) | (go_at_call 43; exact ext_call (l6Code_any ss _ HSZ.out (by omega) (by assumption) _)))))); refine wpQuiet_nil ?_; rintro wq ⟨⟨_, heq⟩, rfl⟩; (try dsimp only))
                go_wp2
                go_roundw
                case rel => exact ⟨j + 1, by omega, by go_num, hgood.out, he.trans heq⟩
                case measure => simp [intOf]; omega
              · have hbad := Lib.hid (TabOk_ban hx.out (by rw [hP, hcd]; rfl))
                clear hP
                go_wp2
                (refine wp_region_ext_lit (by kernel_rfl) (by kernel_rfl) ?_; (repeat (go_big_quiet_step ((first | (go_at_call 42; exact ext_call (l6Ban_any _ _ _ ss _ _ HN.out (by omega) HSZ.out (hSR.ext (ExtOf.ext _)))) | (go_at_call 43; exact ext_call (l6Code_any ss _ HSZ.out (by omega) (by assumption) _)))))); refine wpQuiet_nil ?_; rintro wq ⟨⟨_, heq⟩, rfl⟩; (try dsimp only))
                go_wp2
                go_ret
                exact ⟨ret_bool hbad.out.symm, eW.trans heq⟩
        · obtain rfl : j = m := by omega
          have hend := Lib.hid (TabOk_yes HN.out HM.out h1 h2 HSOK.out HA.out)
          go_wp2
          go_ret
          exact ⟨ret_bool hend.out.symm, eW⟩
end Go.Proofs.YtekggbmpogmlcaaDoor
