/- The law FnHues. -/
import Derived.Test.YtekfccfghmggmaaDoorHuesP
import Derived.Test.YtekfccfghmggmaaDoorShadeI
import Derived.Test.YtekfccfghmggmaaDoorShadeG
import Derived.Test.YtekfccfghmggmaaDoorShade2
import Derived.Test.YtekfccfghmggmaaDoorShadeText
import Derived.Test.YtekfccfghmggmaaDoorVsR
import Derived.Test.YtekfccfghmggmaaDoorDrawShadeD
import Derived.Deep.DeepCutAuto
import Derived.Deep.CutBlock
namespace Go.Proofs.YtekfccfghmggmaaDoor
open Go.RowKit
set_option linter.unusedVariables false
set_option linter.unusedSimpArgs false
attribute [local go_sem] ExtOf.cell

set_option maxRecDepth 100000 in
set_option maxHeartbeats 8000000 in
theorem FnHues_any (A : Option Addr) (n c : Nat) (l : List Int) (w : World) (h : CodeOk w A n l) (ht : TabOkW w) :
    Calls Tryd.prog 3 #[.slice A n c] w fun e w' => e = .returned (.bool true) ∧ Ext w w' := by
  have HC := Lib.hid h
  have HT := Lib.hid ht
  have hsm := h.small
  clear h ht
  by_cases hbig : 65536 < (n : Int)
  · have hd : decide (65536 < (n : Int)) = true := by simpa using hbig
    go_enter Tryd.func3, Tryd.ntmps3
    go_wp2_with (go_at_call 4; refine (rBig_any A n c w hsm).mono ?_; rintro e w' ⟨rfl, rfl⟩)
    go_ret
    exact ⟨rfl, Ext.refl _⟩
  have hd : decide (65536 < (n : Int)) = false := by simpa using hbig
  clear hbig
  go_enter Tryd.func3, Tryd.ntmps3
  go_wp2_with fail
  refine (rBig_any A n c w hsm).mono ?_
  rintro e w' ⟨rfl, rfl⟩
  go_wp2_with fail
  refine (DrawHueDistance_any A n c l _ HC.out).mono ?_
  rintro e w1 ⟨a, b, rfl, e1⟩
  have E1 := Lib.hid e1
  clear e1
  have HI := Lib.hid (fun (wx : World) => HueDistanceI_any a b wx)
  have HS := Lib.hid (fun (wx : World) => HueDistanceS_any a b wx)
  have HB := Lib.hid (fun (wx : World) => HueDistanceI_any b a wx)
  have BI := Lib.hid (fun (wx : World) => BlendHueI_any a b wx)
  have BS := Lib.hid (fun (wx : World) => BlendHueS_any a b wx)
  have HP := Lib.hid (fun (wx : World) => HueDistanceI_any a (blendR a b) wx)
  have HQ := Lib.hid (fun (wx : World) => HueDistanceI_any (blendR a b) b wx)
  rw [distR_sym a b, hues_sym b a] at HB
  have HLaw := Lib.hid (fun (hh : hues a b = true) => blend_law hh)
  have n180 := dist_le a b
  have n0 := dist_ge a b
  have p0 := dist_ge a (blendR a b)
  have p180 := dist_le a (blendR a b)
  have q0 := dist_ge (blendR a b) b
  have q180 := dist_le (blendR a b) b
  generalize hueDistR a (blendR a b) = p at *
  generalize hueDistR (blendR a b) b = q at *
  generalize hues a (blendR a b) = pk at *
  generalize hues (blendR a b) b = qk at *
  generalize blendR a b = mid at *
  generalize hueDistR a b = nn at *
  generalize hues a b = ok at *
  have hdn : decide (180 < nn) = false := by simp; omega
  go_wp2_with fail
  refine (HI.out _).mono ?_
  rintro e w2 ⟨rfl, rfl⟩
  go_wp2_with fail
  refine (HS.out _).mono ?_
  rintro e w2 ⟨rfl, rfl⟩
  go_wp2_with fail
  refine (HB.out _).mono ?_
  rintro e w2 ⟨rfl, rfl⟩
  go_wp2_with fail
  refine (BI.out _).mono ?_
  rintro e w2 ⟨rfl, rfl⟩
  go_wp2_with fail
  refine (BS.out _).mono ?_
  rintro e w2 ⟨rfl, rfl⟩
  clear HI HS HB BI BS
  go_upto_if 112 with fail
  go_cut [15, 16, 17, 18] (fun s1 s2 s3 s4 W => W = w1)
  case first =>
    cases ok
    · go_wp2
      go_meet
      exact rfl
    · obtain ⟨l1, l2, l3, l4, l5⟩ := HLaw.out rfl
      subst l1; subst l2
      clear HLaw
      have d1 : (p + q == nn) = true := by simp; omega
      have d2 : decide (p + q = nn) = true := by simp; omega
      have d2' : (p + q != nn) = false := by simp; omega
      have d3 : decide (1 < q - p) = false := by simp; omega
      have d4 : decide (q < p) = false := by simp; omega
      have L3 := Lib.hid l3
      clear l3
      go_wp2_with fail
      refine (HP.out _).mono ?_
      rintro e w2 ⟨rfl, rfl⟩
      go_wp2_with fail
      refine (HQ.out _).mono ?_
      rintro e w2 ⟨rfl, rfl⟩
      go_wp2
      go_meet
      exact rfl
  case rest =>
    subst hcut
    clear HP HQ HLaw
    go_wp2_with fail
    refine (DrawCertainHues_any A n c l _ (HC.out.ext E1.out)).mono ?_
    rintro e w2 ⟨B, m, mc, s, lt, rfl, ⟨xs, hmc, hL⟩, e2⟩
    have L2 := Lib.hid hL
    have hms := hL.small
    clear hL hmc
    have E2 := Lib.hid (E1.out.trans e2)
    clear e2 E1
    have SLaw := Lib.hid (fun (hh : sureOk xs s lt = true) (x : Shade) (hx : x ∈ xs) (hn : (x.Name.toList == s.toList) = true) => sure_law hh hx hn)
    go_wp2_with fail
    refine (CertainHuesI_any B m mc xs s lt _ L2.out).mono ?_
    rintro e w3 ⟨rfl, e3⟩
    go_wp2_with fail
    refine (CertainHuesS_any B m mc xs s lt _ (L2.out.ext e3)).mono ?_
    rintro e w4 ⟨rfl, e4⟩
    have L4 := Lib.hid (L2.out.ext (e3.trans e4))
    have E4 := Lib.hid (E2.out.trans (e3.trans e4))
    clear L2 E2 e3 e4
    generalize sureR xs s lt = sr at *
    generalize sureOk xs s lt = sk at *
    go_upto_block 0 with fail
    go_cut [26] (fun s1 W => Ext w4 W)
    case first =>
      go_wp2_with fail
      go_loopw [26] (fun i wr => ∃ k : Nat, k ≤ m ∧ i = .int .i64 k ∧ Ext w4 wr) (fun i _ => m - (intOf i).toNat)
      case atStart => exact ⟨0, Nat.zero_le _, rfl, Ext.refl _⟩
      case round =>
        obtain ⟨k, hk, rfl, he⟩ := hrel
        by_cases hlt : k < m
        · have hdk : decide ((k : Int) < (m : Int)) = true := by simp; omega
          obtain ⟨b, off, x, rfl, hb, hx, hxn, g0, g1, g2, g3, g4⟩ := (L4.out.ext he).at_ hlt
          cases sk
          · go_wp2
            go_meet
            exact he
          · have F := Lib.hid (fun (hn : (x.Name.toList == s.toList) = true) => SLaw.out rfl x (List.mem_of_getElem? hx.out) hn)
            cases hn : (x.Name.toList == s.toList)
            · go_wp2
              go_roundw
              case rel => exact ⟨k + 1, by omega, by go_num, he⟩
              case measure => simp [intOf]; omega
            · obtain ⟨f1, f2, f3⟩ := F.out hn
              have hd7 : decide (2 * x.Width + 1 < sr) = false := by simp; omega
              go_wp2
              go_roundw
              case rel => exact ⟨k + 1, by omega, by go_num, he⟩
              case measure => simp [intOf]; omega
        · have hdk : decide ((k : Int) < (m : Int)) = false := by simp; omega
          go_wp2
          go_meet
          exact he
    case rest =>
      have E5 := Lib.hid (E4.out.trans hcut)
      clear E4 L4 SLaw hcut hms
      go_wp2_with fail
      refine (DrawFreeColors_any A n c l _ (HC.out.ext E5.out)).mono ?_
      rintro e w6 ⟨B, m, mc, lt, rfl, ⟨xs, hmc, hL⟩, e6⟩
      have L6 := Lib.hid hL
      clear hL hmc
      go_wp2_with fail
      refine (FreeColorsI_any B m mc xs lt _ L6.out).mono ?_
      rintro e w7 ⟨rfl, e7⟩
      go_wp2_with fail
      refine (FreeColorsS_any B m mc xs lt _ (L6.out.ext e7)).mono ?_
      rintro e w8 ⟨rfl, e8⟩
      have E8 := Lib.hid (E5.out.trans (e6.trans (e7.trans e8)))
      clear E5 e6 e7 e8 L6
      generalize freeR xs lt = fr at *
      generalize freeOk xs lt = fk at *
      go_wp2_with fail
      refine (DrawColorsIn_any A n c l _ (HC.out.ext E8.out)).mono ?_
      rintro e w9 ⟨r, rfl, hr, e9⟩
      have hrn : r.Name.size ≤ maxLen := hr.wf.1
      have CI := Lib.hid (fun (wx : World) => ColorsInI_any r.Name r.Hue r.Width r.Dark r.Light hrn wx)
      have CS := Lib.hid (fun (wx : World) => ColorsInS_any r.Name r.Hue r.Width r.Dark r.Light hrn wx)
      have TI := Lib.hid (fun (wx : World) (hx : Ext w wx) => ShadeTextI_any r.Name r.Hue r.Width r.Dark r.Light hrn wx (HT.out.ext hx))
      have TS := Lib.hid (fun (wx : World) => ShadeTextS_any r.Name r.Hue r.Width r.Dark r.Light hrn wx)
      generalize colors r.Name r.Hue r.Width r.Dark r.Light = co at *
      generalize shadeT r.Name r.Hue r.Width r.Dark r.Light = tx at *
      generalize shOk r.Name r.Hue r.Width r.Dark r.Light = tb at *
      have E9 := Lib.hid ((E8.out.trans e9).alloc (.cells #[.string r.Name, .int .i64 r.Hue, .int .i64 r.Width, .int .i64 r.Dark, .int .i64 r.Light] 33))
      have BX := Lib.hid (own_block w9 33 r.cs)
      clear E8 e9 hr
      go_wp2_with fail
      refine (CI.out _).mono ?_
      rintro e wa ⟨rfl, ea⟩
      have u0 := own_at (ea.own BX.out) (j := 0) rfl
      have u1 := own_at (ea.own BX.out) (j := 1) rfl
      have u2 := own_at (ea.own BX.out) (j := 2) rfl
      have u3 := own_at (ea.own BX.out) (j := 3) rfl
      have u4 := own_at (ea.own BX.out) (j := 4) rfl
      have za : w9.heap.size < wa.heap.size := World.block_lt_of_cell? wa _ u0
      go_wp2_with fail
      refine (CS.out _).mono ?_
      rintro e wb ⟨rfl, eb⟩
      have EB := Lib.hid (ea.trans eb)
      clear u0 u1 u2 u3 u4 za ea eb
      have u0 := own_at (EB.out.own BX.out) (j := 0) rfl
      have u1 := own_at (EB.out.own BX.out) (j := 1) rfl
      have u2 := own_at (EB.out.own BX.out) (j := 2) rfl
      have u3 := own_at (EB.out.own BX.out) (j := 3) rfl
      have u4 := own_at (EB.out.own BX.out) (j := 4) rfl
      have zb : w9.heap.size < wb.heap.size := World.block_lt_of_cell? wb _ u0
      go_wp2_with fail
      refine (TI.out _ (E9.out.trans EB.out)).mono ?_
      rintro e wd ⟨rfl, ed⟩
      have ED := Lib.hid (EB.out.trans ed)
      clear u0 u1 u2 u3 u4 zb ed
      have u0 := own_at (ED.out.own BX.out) (j := 0) rfl
      have u1 := own_at (ED.out.own BX.out) (j := 1) rfl
      have u2 := own_at (ED.out.own BX.out) (j := 2) rfl
      have u3 := own_at (ED.out.own BX.out) (j := 3) rfl
      have u4 := own_at (ED.out.own BX.out) (j := 4) rfl
      have zd : w9.heap.size < wd.heap.size := World.block_lt_of_cell? wd _ u0
      go_wp2_with fail
      refine (TS.out _).mono ?_
      rintro e we ⟨rfl, ee⟩
      have EF := Lib.hid (E9.out.trans (ED.out.trans ee))
      go_wp2
      go_ret
      exact ⟨rfl, EF.out⟩
end Go.Proofs.YtekfccfghmggmaaDoor
