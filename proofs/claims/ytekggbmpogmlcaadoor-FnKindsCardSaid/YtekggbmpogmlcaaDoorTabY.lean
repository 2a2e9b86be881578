/- Valid tables: the program's check. -/
import Derived.Test.YtekggbmpogmlcaaDoorTabX
namespace Go.Proofs.YtekggbmpogmlcaaDoor
open Go.RowKit
set_option linter.unusedVariables false
set_option linter.unusedSimpArgs false
attribute [local go_sem] ExtOf.cell

set_option maxRecDepth 100000 in
set_option maxHeartbeats 4000000 in
theorem isKindTable_any (g : Nat) (A : Option Addr) (n c : Nat) (B : Option Addr) (m d : Nat) (ss : List Int) (bs : List Ban) (w : World) (h : TabL w A n B m ss bs) (p0 : w.cell? ⟨g, 0, none⟩ = some (.slice A n c)) (p1 : w.cell? ⟨g, 1, none⟩ = some (.slice B m d)) :
    Calls Tryd.prog 21 #[.pointer (some ⟨g, 0, none⟩)] w fun e w' => e = .returned (.bool (TabOk ss bs)) ∧ Ext w w' := by
  have hn := h.sm
  have hm := h.bl.small
  have HN := Lib.hid h.sl
  have HM := Lib.hid h.bl.len
  have P0 := Lib.hid p0
  have P1 := Lib.hid p1
  have hg : g < w.heap.size := World.block_lt_of_cell? w _ p0
  cases h1 : inB (n : Int) 1 5
  · have hv := Lib.hid (TabOk_len (bs := bs) (show inB (ss.length : Int) 1 5 = false by rw [HN.out]; exact h1))
    go_enter Tryd.func21, Tryd.ntmps21
    go_wp2_with (go_at_call 36; refine (inRange_any _ _ _ _).mono ?_; rintro e w' ⟨rfl, rfl⟩)
    go_ret
    exact ⟨ret_bool hv.out.symm, (by repeat (first | exact Ext.refl _ | assumption | refine Ext.trans ?_ (by assumption) | refine Ext.drew ?_ | refine Ext.drewN ?_ _ | refine Ext.alloc ?_ _))⟩
  by_cases h2 : m ≤ 20
  rotate_left
  · have hv := Lib.hid (TabOk_many (ss := ss) (show decide (bs.length ≤ 20) = false by rw [HM.out]; simpa using h2))
    have d1 : decide ((20 : Int) < m) = true := by simp; omega
    have d2 : decide (20 < m) = true := by simp; omega
    go_enter Tryd.func21, Tryd.ntmps21
    go_wp2_with (go_at_call 36; refine (inRange_any _ _ _ _).mono ?_; rintro e w' ⟨rfl, rfl⟩)
    go_ret
    exact ⟨ret_bool hv.out.symm, (by repeat (first | exact Ext.refl _ | assumption | refine Ext.trans ?_ (by assumption) | refine Ext.drew ?_ | refine Ext.drewN ?_ _ | refine Ext.alloc ?_ _))⟩
  have hn5 := inB_iff.1 h1
  have d1 : decide ((20 : Int) < m) = false := by simp; omega
  have d2 : decide (20 < m) = false := by simp; omega
  go_enter Tryd.func21, Tryd.ntmps21
  go_wp2_with (go_at_call 36; refine (inRange_any _ _ _ _).mono ?_; rintro e w' ⟨rfl, rfl⟩)
  clear p0 p1
  go_loopw [27] (fun i wr => ∃ k : Nat, k ≤ n ∧ i = .int .i64 k ∧ noneTo sizeBad ss k ∧ Ext w wr) (fun i _ => n - (intOf i).toNat)
  case atStart => exact ⟨0, Nat.zero_le _, rfl, noneTo_zero _ _, Ext.refl _⟩
  case round =>
    obtain ⟨k, hk, rfl, hno, he⟩ := hrel
    have HNO := Lib.hid hno
    clear hno
    have t0 := he.cell1 P0.out
    have t1 := he.cell1 P1.out
    by_cases hlt : k < n
    · obtain ⟨b, off, v, rfl, hb, hv, gv⟩ := (h.sr.ext he).int hlt
      cases hq : inB v 1 5
      · have hbad := Lib.hid (TabOk_size (bs := bs) hv.out hq)
        go_wp2_with (go_at_call 36; refine (inRange_any _ _ _ _).mono ?_; rintro e w' ⟨rfl, rfl⟩)
        go_ret
        exact ⟨ret_bool hbad.out.symm, he⟩
      · have hs := Lib.hid (noneTo_succ HNO.out hv.out (by unfold sizeBad; rw [hq]; rfl))
        go_wp2_with (go_at_call 36; refine (inRange_any _ _ _ _).mono ?_; rintro e w' ⟨rfl, rfl⟩)
        go_roundw
        case rel => exact ⟨k + 1, by omega, by go_num, hs.out, he⟩
        case measure => simp [intOf]; omega
    · obtain ⟨hsz, hsok⟩ := sizes_all HN.out (show noneTo sizeBad ss n by rw [show n = k by omega]; exact HNO.out)
      have HSZ := Lib.hid hsz
      have HSOK := Lib.hid hsok
      clear hsz hsok HNO
      have hl5 : ss.length ≤ 5 := by have := HN.out; omega
      go_wp2
      go_loopw [40] (fun i wr => ∃ j : Nat, j ≤ m ∧ i = .int .i64 j ∧ adjTo (BanP ss) bs j ∧ Ext w wr) (fun i _ => m - (intOf i).toNat)
      case atStart => exact ⟨0, Nat.zero_le _, rfl, adjTo_zero _ _, he⟩
      case round =>
        clear t0 t1 he
        obtain ⟨j, hj, rfl, ha, he⟩ := hrel
        have HA := Lib.hid ha
        clear ha
        have t0 := he.cell1 P0.out
        have t1 := he.cell1 P1.out
        have hz : g < wr.heap.size := World.block_lt_of_cell? wr _ t0
        by_cases hjm : j < m
        · obtain ⟨b, off, x, rfl, hb, hx, g0, g1, g2, g3⟩ := (h.bl.ext he).at_ hjm
          have hSR := h.sr.ext he
          have hfit := Lib.hid (show banFits ss x = (decide (0 ≤ x.A) && (decide (x.A < x.B) && (decide (x.B < n) && (inB x.X 0 (sizeAt ss x.A - 1) && inB x.Y 0 (sizeAt ss x.B - 1))))) by unfold banFits; rw [HN.out])
          rcases chain3 (!(decide (x.A < 0))) (!(decide (x.B ≤ x.A))) (!(decide ((n : Int) ≤ x.B))) with h3 | ⟨h3, h4⟩ | ⟨h3, h4, h5⟩ | ⟨h3, h4, h5⟩
          iterate 3
            · have hbad := Lib.hid (TabOk_ban hx.out (BanP_no (q := before bs j) (hfit.out.trans (by simp at *; omega))))
              (try simp only [Bool.not_eq_true', Bool.not_eq_false'] at h3)
              (try simp only [Bool.not_eq_true', Bool.not_eq_false'] at h4)
              (try simp only [Bool.not_eq_true', Bool.not_eq_false'] at h5)
              go_wp2
              (try simp only [List.append_eq, List.cons_append, List.nil_append])
              (refine wp_region_ext_lit (by kernel_rfl) (by kernel_rfl) ?_; (repeat (go_big_quiet_step ((first | (go_at_call 36; exact ext_call_same (inRange_any _ _ _ _)) | (go_at_call 37; exact ext_call (compareBans_any _ _ _)))))); refine wpQuiet_nil ?_; rintro wq ⟨⟨_, heq⟩, rfl⟩; (try dsimp only))
              go_wp2
              go_ret
              exact ⟨ret_bool hbad.out.symm, (he.alloc _).trans heq⟩
          · (try simp only [Bool.not_eq_true', Bool.not_eq_false'] at h3)
            (try simp only [Bool.not_eq_true', Bool.not_eq_false'] at h4)
            (try simp only [Bool.not_eq_true', Bool.not_eq_false'] at h5)
            obtain ⟨p, q, r, s⟩ := x
            dsimp only at h3 h4 h5 hfit g0 g1 g2 g3
            have e0 : 0 ≤ p := by simpa using h3
            have e1 : p < r := by simpa using h4
            have e2 : r < n := by simpa using h5
            obtain ⟨p, rfl⟩ : ∃ g : Nat, p = g := ⟨p.toNat, by omega⟩
            obtain ⟨r, rfl⟩ : ∃ g : Nat, r = g := ⟨r.toNat, by omega⟩
            have hpn : p < n := by omega
            have hrn : r < n := by omega
            have hpi : (p : Int) < n := by omega
            have d3 : decide (r ≤ p) = false := by simp; omega
            have d4 : decide (n ≤ r) = false := by simp; omega
            obtain ⟨b1, off1, u, rfl, hb1, hu, gu⟩ := hSR.int hpn
            obtain ⟨b2, off2, v, eA, hb2, hv2, gv⟩ := hSR.int hrn
            injection eA with eA
            injection eA with x1 x2
            subst x1; subst x2
            have hub := HSZ.out u (List.mem_of_getElem? hu.out)
            have hvb := HSZ.out v (List.mem_of_getElem? hv2.out)
            have w1 : IntKind.i64.wrap (u - 1) = u - 1 := IntWalk.i64_in _ (by omega)
            have w2 : IntKind.i64.wrap (v - 1) = v - 1 := IntWalk.i64_in _ (by omega)
            have hfit2 := Lib.hid (show banFits ss ⟨p, q, r, s⟩ = (inB q 0 (u - 1) && inB s 0 (v - 1)) by rw [hfit.out, show decide (0 ≤ (p : Int)) = true by simp, show decide ((p : Int) < r) = true by simpa using e1, show decide ((r : Int) < n) = true by simpa using e2, sizeAt_get hu.out, sizeAt_get hv2.out]; rfl)
            clear hSR e0 hpi hfit
            rcases chain2 (inB q 0 (u - 1)) (inB s 0 (v - 1)) with h6 | ⟨h6, h7⟩ | ⟨h6, h7⟩
            iterate 2
              · have hbad := Lib.hid (TabOk_ban hx.out (BanP_no (q := before bs j) (hfit2.out.trans (show _ = false by first | (rw [h6, h7]; rfl) | (rw [h6]; rfl)))))
                go_wp2
                (try simp only [List.append_eq, List.cons_append, List.nil_append])
                (refine wp_region_ext_lit (by kernel_rfl) (by kernel_rfl) ?_; (repeat (go_big_quiet_step ((first | (go_at_call 36; exact ext_call_same (inRange_any _ _ _ _)) | (go_at_call 37; exact ext_call (compareBans_any _ _ _)))))); refine wpQuiet_nil ?_; rintro wq ⟨⟨_, heq⟩, rfl⟩; (try dsimp only))
                go_wp2
                go_ret
                exact ⟨ret_bool hbad.out.symm, (he.alloc _).trans heq⟩
            have hs := hfit2.out.trans (show _ = true by rw [h6, h7]; rfl)
            rcases Nat.eq_zero_or_pos j with hj0 | hpos
            · have hgood := Lib.hid (adjTo_succ HA.out hx.out (by rw [hj0, BanP_zero]; exact hs))
              have z1 : decide (0 < (j : Int)) = false := by simp; omega
              have z2 : decide (0 < j) = false := by simp; omega
              clear hj0
              go_wp2
              (try simp only [List.append_eq, List.cons_append, List.nil_append])
              (refine wp_region_ext_lit (by kernel_rfl) (by kernel_rfl) ?_; (repeat (go_big_quiet_step ((first | (go_at_call 36; exact ext_call_same (inRange_any _ _ _ _)) | (go_at_call 37; exact ext_call (compareBans_any _ _ _)))))); refine wpQuiet_nil ?_; rintro wq ⟨⟨_, heq⟩, rfl⟩; (try dsimp only))
              go_wp2
              go_roundw
              case rel => exact ⟨j + 1, by omega, by go_num, hgood.out, (he.alloc _).trans heq⟩
              case measure => simp [intOf]; omega
            · obtain ⟨b', off', y, eA, hb', hy, q0, q1, q2, q3⟩ := (h.bl.ext he).at_ (show j - 1 < m by omega)
              injection eA with eA
              injection eA with x1 x2
              subst x1; subst x2
              have hP := BanP_pos (ss := ss) (x := ⟨p, q, r, s⟩) hpos hy.out
              rw [hs, Bool.true_and] at hP
              unfold banLess at hP
              have hC := fun w => compareBans_any y ⟨p, q, r, s⟩ w
              generalize banOr y ⟨p, q, r, s⟩ = od at hP hC
              have COD := Lib.hid hC
              clear hC
              have z1 : decide (0 < (j : Int)) = true := by simp; omega
              have z2 : decide (0 < j) = true := by simp; omega
              cases hcd : decide (0 ≤ od)
              · have hgood := Lib.hid (adjTo_succ HA.out hx.out (by rw [hP]; simp at hcd ⊢; omega))
                clear hP
                go_wp2
                (try simp only [List.append_eq, List.cons_append, List.nil_append])
                (refine wp_region_ext_lit (by kernel_rfl) (by kernel_rfl) ?_; (repeat (go_big_quiet_step ((first | (go_at_call 36; exact ext_call_same (inRange_any _ _ _ _)) | (go_at_call 37; exact ext_call (COD.out _)))))); refine wpQuiet_nil ?_; rintro wq ⟨⟨_, heq⟩, rfl⟩; (try dsimp only))
                go_wp2
                go_roundw
                case rel => exact ⟨j + 1, by omega, by go_num, hgood.out, (he.alloc _).trans heq⟩
                case measure => simp [intOf]; omega
              · have hbad := Lib.hid (TabOk_ban hx.out (by rw [hP]; simp at hcd ⊢; omega))
                clear hP
                go_wp2
                (try simp only [List.append_eq, List.cons_append, List.nil_append])
                (refine wp_region_ext_lit (by kernel_rfl) (by kernel_rfl) ?_; (repeat (go_big_quiet_step ((first | (go_at_call 36; exact ext_call_same (inRange_any _ _ _ _)) | (go_at_call 37; exact ext_call (COD.out _)))))); refine wpQuiet_nil ?_; rintro wq ⟨⟨_, heq⟩, rfl⟩; (try dsimp only))
                go_wp2
                go_ret
                exact ⟨ret_bool hbad.out.symm, (he.alloc _).trans heq⟩
        · obtain rfl : j = m := by omega
          have hend := Lib.hid (TabOk_yes HN.out HM.out h1 h2 HSOK.out HA.out)
          go_wp2
          go_ret
          exact ⟨ret_bool hend.out.symm, he⟩
end Go.Proofs.YtekggbmpogmlcaaDoor
