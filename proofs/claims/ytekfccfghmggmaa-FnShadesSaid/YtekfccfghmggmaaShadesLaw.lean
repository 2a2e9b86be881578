/- The law FnShades. -/
import Derived.Test.YtekfccfghmggmaaShadesP
import Derived.Test.YtekfccfghmggmaaPairsM
import Derived.Test.YtekfccfghmggmaaPairsI
import Derived.Test.YtekfccfghmggmaaShadeC
import Derived.Test.YtekfccfghmggmaaShadeS3
import Derived.Test.YtekfccfghmggmaaVsR
import Derived.Test.YtekfccfghmggmaaIsShade
import Derived.Test.YtekfccfghmggmaaDrawShadeD
import Derived.Deep.DeepCutAuto
import Derived.Deep.CutBlock
namespace Go.Proofs.Ytekfccfghmggmaa
open Go.RowKit
set_option linter.unusedVariables false
set_option linter.unusedSimpArgs false
attribute [local go_sem] ExtOf.cell

set_option maxRecDepth 100000 in
set_option maxHeartbeats 8000000 in
theorem FnShades_any (A : Option Addr) (n c : Nat) (l : List Int) (w : World) (h : CodeOk w A n l) :
    Calls Try.prog 4 #[.slice A n c] w fun e w' => e = .returned (.bool true) ∧ Ext w w' := by
  have HC := Lib.hid h
  have hsm := h.small
  clear h
  by_cases hbig : 65536 < (n : Int)
  · have hd : decide (65536 < (n : Int)) = true := by simpa using hbig
    go_enter Try.func4, Try.ntmps4
    go_wp2_with (go_at_call 14; refine (rBig_any A n c w hsm).mono ?_; rintro e w' ⟨rfl, rfl⟩)
    go_ret
    exact ⟨rfl, Ext.refl _⟩
  have hd : decide (65536 < (n : Int)) = false := by simpa using hbig
  clear hbig
  go_enter Try.func4, Try.ntmps4
  go_wp2_with fail
  refine (rBig_any A n c w hsm).mono ?_
  rintro e w' ⟨rfl, rfl⟩
  go_wp2_with fail
  refine (DrawBestShade_any A n c l _ HC.out).mono ?_
  rintro e w1 ⟨B, m, mc, hue, light, rfl, ⟨xs, hmc, hL⟩, e1⟩
  have L1 := Lib.hid hL
  have hms := hL.small
  have hmc9 := hmc
  clear hL hmc
  have HSome := Lib.hid (best_some xs hue light)
  obtain ⟨d, hd9⟩ : ∃ d : Int, Hid (bestOk xs hue light = true → hasT (namesR xs hue light) (bestR xs hue light) = true ∧ (∃ x ∈ xs, x.Name = bestR xs hue light) ∧
      (∀ y ∈ xs, y.Name.toList = (bestR xs hue light).toList → hueDist y.Hue hue = d) ∧ (∀ y ∈ xs, hasT (namesR xs hue light) y.Name = true → d ≤ hueDist y.Hue hue) ∧ (∀ y ∈ xs, hues y.Hue hue = true ∧ hueDistR y.Hue hue = hueDist y.Hue hue)) := by
    cases hb : bestOk xs hue light
    · exact ⟨0, fun hh => by cases hh⟩
    · obtain ⟨d, hd9⟩ := best_law hb
      exact ⟨d, fun _ => hd9⟩
  go_wp2_with fail
  refine (BestShadeI_any B m mc xs hue light _ L1.out).mono ?_
  rintro e w2 ⟨rfl, e2⟩
  go_wp2_with fail
  refine (BestShadeS_any B m mc xs hue light _ (L1.out.ext e2)).mono ?_
  rintro e w3 ⟨rfl, e3⟩
  have L3 := Lib.hid (L1.out.ext (e2.trans e3))
  have E3 := Lib.hid (e1.trans (e2.trans e3))
  clear e1 e2 e3 L1
  generalize bestR xs hue light = bs at *
  generalize bestOk xs hue light = ok at *
  go_wp2_with fail
  refine (ShadesOfI_any B m mc xs hue light _ L3.out).mono ?_
  rintro e w4 ⟨A2, m2, c2, rfl, o2, e4⟩
  go_wp2_with fail
  refine (ShadesOfS_any B m mc xs hue light _ (L3.out.ext e4)).mono ?_
  rintro e w5 ⟨A3, m3, c3, rfl, o3, e5⟩
  have hl2 : (namesR xs hue light).length = m2 := by have := o2.1; rw [strs_length] at this; omega
  have hl3 : m3 = m2 := by have := o3.1; rw [strs_length] at this; omega
  subst hl3
  have hm3 : m3 ≤ m := by rw [← hl2]; exact names_len L3.out.len
  rw [hl2] at HSome
  have HLen := Lib.hid hl2
  have O2 := Lib.hid (e5.own o2)
  have O3 := Lib.hid o3
  have L5 := Lib.hid (L3.out.ext (e4.trans e5))
  have E5 := Lib.hid (E3.out.trans (e4.trans e5))
  clear o2 o3 e4 e5 hl2 L3 E3
  generalize namesR xs hue light = ns at *
  generalize bestAsk xs hue light = ask at *
  go_wp2_with fail
  refine (rTexts_same A2 A3 m3 c2 c3 ns _ (by omega) (Rd.own O2.out) (Rd.own O3.out)).mono ?_
  rintro e w6 ⟨rfl, e6⟩
  have R6 := Lib.hid (Rd.own (e6.own O2.out))
  have L6 := Lib.hid (L5.out.ext e6)
  have E6 := Lib.hid (E5.out.trans e6)
  clear O2 O3 L5 E5 e6
  obtain ⟨w6, rfl⟩ : ∃ wq : World, wq = w6 := ⟨_, rfl⟩
  go_upto_region 12 with fail
  go_cut [102] (fun p W => p = .bool false ∧ Ext w6 W)
  case first =>
    cases ok
    · have H2 : ask = false ∨ ask = true ∧ decide (0 < (m3 : Int)) = false ∧ decide (0 < m3) = false ∧ ¬ 0 < m3 := by
        have := HSome.out
        cases ask
        · exact .inl rfl
        · have h9 : ¬ 0 < m3 := by simp at this; omega
          exact .inr ⟨rfl, by simp; omega, by simp; omega, h9⟩
      clear HSome
      rcases H2 with rfl | ⟨rfl, hd3, hd4, hd5⟩
      all_goals
        go_wp2
        go_meet
        exact ⟨rfl, Ext.refl _⟩
    · obtain ⟨hh, _⟩ := hd9.out rfl
      have HH := Lib.hid hh
      obtain ⟨rfl, hd3, hd4, hd5⟩ : ask = true ∧ decide (0 < (m3 : Int)) = true ∧ decide (0 < m3) = true ∧ 0 < m3 := by
        have := HSome.out
        simp at this
        exact ⟨this.1, by simp; omega, by simp; omega, by omega⟩
      clear hh HSome
      go_wp2_with fail
      refine (rHasText_any A2 m3 c2 ns bs _ HLen.out (by omega) R6.out).mono ?_
      rintro e w7 ⟨rfl, e7⟩
      rw [HH.out]
      go_wp2
      go_meet
      exact ⟨rfl, e7⟩
  case rest =>
    obtain ⟨rfl, e7⟩ := hcut
    have R7 := Lib.hid (R6.out.ext e7)
    have L7 := Lib.hid (L6.out.ext e7)
    have E7 := Lib.hid (E6.out.trans e7)
    clear R6 L6 E6 e7 HSome
    obtain ⟨w7, rfl⟩ : ∃ wq : World, wq = wc := ⟨_, rfl⟩
    have hdt : ∀ y : Shade, (y.Name.toList == bs.toList) = (y.Name.toList == bs.toList) := fun _ => rfl
    clear hdt
    go_upto_block 0 with fail
    go_cut [14, 15, 16, 17] (fun q s1 s2 s3 W => ∃ lv : Int, q = .int .i64 lv ∧ Hid (ok = true → lv = d) ∧ Ext w7 W)
    case first =>
      go_wp2_with fail
      go_loopw [14, 15] (fun q i wr => ∃ (k : Nat) (lv : Int), k ≤ m ∧ i = .int .i64 k ∧ q = .int .i64 lv ∧ Hid (ok = true → lv = d ∨ noneTo (fun y : Shade => y.Name.toList == bs.toList) xs k) ∧ Ext w7 wr) (fun _ i _ => m - (intOf i).toNat)
      case atStart => exact ⟨0, 999, Nat.zero_le _, rfl, rfl, fun _ => .inr (noneTo_zero _ _), Ext.refl _⟩
      case round =>
        obtain ⟨k, lv, hk, rfl, rfl, hlv, he⟩ := hrel
        by_cases hlt : k < m
        · have hdk : decide ((k : Int) < (m : Int)) = true := by simp; omega
          obtain ⟨b, off, x, rfl, hb, hx, hxn, g0, g1, g2, g3, g4⟩ := (L7.out.ext he).at_ hlt
          cases ok
          · go_wp2
            go_meet
            exact ⟨lv, rfl, (fun hh => by cases hh), he⟩
          · obtain ⟨_, _, f1, _, f3⟩ := hd9.out rfl
            have hxm := List.mem_of_getElem? hx.out
            obtain ⟨q1, q2⟩ := f3 x hxm
            have Q1 := Lib.hid q1
            have F1 := Lib.hid (fun (e : (x.Name.toList == bs.toList) = true) => q2.trans (f1 x hxm (by simpa using e)))
            clear f1 f3 q1 q2 hxm
            cases hn : (x.Name.toList == bs.toList)
            · have HN := Lib.hid (show lv = d ∨ noneTo (fun y : Shade => y.Name.toList == bs.toList) xs (k + 1) from by
                rcases hlv rfl with h9 | h9
                · exact .inl h9
                · exact .inr (noneTo_succ h9 hx.out hn))
              go_wp2
              go_roundw
              case rel => exact ⟨k + 1, lv, by omega, by go_num, rfl, fun _ => HN.out, he⟩
              case measure => simp [intOf]; omega
            · have Q2 := Lib.hid (F1.out hn)
              go_wp2_with fail
              refine (HueDistanceI_any x.Hue hue _).mono ?_
              rintro e w8 ⟨rfl, rfl⟩
              rw [Q1.out, Q2.out]
              go_wp2
              go_roundw
              case rel => exact ⟨k + 1, d, by omega, by go_num, rfl, fun _ => .inl rfl, he⟩
              case measure => simp [intOf]; omega
        · have hdk : decide ((k : Int) < (m : Int)) = false := by simp; omega
          have hkm : k = m := by omega
          have HV := Lib.hid (show ok = true → lv = d from fun hh => by
            rcases hlv hh with h9 | h9
            · exact h9
            · exfalso
              obtain ⟨_, ⟨x, hxm, hxe⟩, _⟩ := hd9.out hh
              have h8 := h9 x (by rw [List.take_of_length_le (by rw [hkm, L7.out.len]; exact Nat.le_refl _)]; exact hxm)
              simp [hxe] at h8)
          clear hlv hkm
          go_wp2
          go_meet
          exact ⟨lv, rfl, HV.out, he⟩
    case rest =>
      obtain ⟨lv, rfl, hlv, e8⟩ := hcut
      have HV := hlv
      have R8 := Lib.hid (R7.out.ext e8)
      have L8 := Lib.hid (L7.out.ext e8)
      have E8 := Lib.hid (E7.out.trans e8)
      clear R7 L7 E7 e8 hlv
      obtain ⟨w8, rfl⟩ : ∃ wq : World, wq = wc := ⟨_, rfl⟩
      go_upto_block 2 with fail
      go_cut [18, 19, 20] (fun s1 s2 s3 W => Ext w8 W)
      case first =>
        go_wp2_with fail
        go_loopw [18] (fun i wr => ∃ k : Nat, k ≤ m ∧ i = .int .i64 k ∧ Ext w8 wr) (fun i _ => m - (intOf i).toNat)
        case atStart => exact ⟨0, Nat.zero_le _, rfl, Ext.refl _⟩
        case round =>
          obtain ⟨k, hk, rfl, he⟩ := hrel
          by_cases hlt : k < m
          · have hdk : decide ((k : Int) < (m : Int)) = true := by simp; omega
            obtain ⟨b, off, x, rfl, hb, hx, hxn, g0, g1, g2, g3, g4⟩ := (L8.out.ext he).at_ hlt
            cases ok
            · go_wp2
              go_meet
              exact he
            · obtain rfl := HV.out rfl
              obtain ⟨_, _, _, f2, f3⟩ := hd9.out rfl
              have hxm := List.mem_of_getElem? hx.out
              obtain ⟨q1, q2⟩ := f3 x hxm
              have Q1 := Lib.hid q1
              have Q2 := Lib.hid q2
              have F2 := Lib.hid (fun (e : hasT ns x.Name = true) => (show decide (hueDist x.Hue hue < lv) = false by have := f2 x hxm e; simp; omega))
              clear f2 f3 q1 q2 hxm
              go_wp2_with fail
              refine (HueDistanceI_any x.Hue hue _).mono ?_
              rintro e w9 ⟨rfl, rfl⟩
              rw [Q1.out, Q2.out]
              generalize hueDist x.Hue hue = nn at *
              go_wp2_with fail
              refine (rHasText_any A2 m3 c2 ns x.Name _ HLen.out (by omega) (R8.out.ext he)).mono ?_
              rintro e w9 ⟨rfl, e9⟩
              have EH := Lib.hid (he.trans e9)
              clear e9 g0 g1 g2 g3 g4
              cases hh : hasT ns x.Name
              · go_wp2
                go_roundw
                case rel => exact ⟨k + 1, by omega, by go_num, EH.out⟩
                case measure => simp [intOf]; omega
              · have hd5 := F2.out hh
                go_wp2
                go_roundw
                case rel => exact ⟨k + 1, by omega, by go_num, EH.out⟩
                case measure => simp [intOf]; omega
          · have hdk : decide ((k : Int) < (m : Int)) = false := by simp; omega
            go_wp2
            go_meet
            exact he
      case rest =>
        have L9 := Lib.hid (L8.out.ext hcut)
        have E9 := Lib.hid (E8.out.trans hcut)
        clear L8 E8 R8 hcut HV hd9 HLen
        obtain ⟨w9, rfl⟩ : ∃ wq : World, wq = wc := ⟨_, rfl⟩
        go_wp2_with fail
        refine (DrawDoOverlap_any A n c l _ (HC.out.ext E9.out)).mono ?_
        rintro e wa ⟨x, y, rfl, hx, hy, ea⟩
        have hxn : x.Name.size ≤ maxLen := hx.wf.1
        have hyn : y.Name.size ≤ maxLen := hy.wf.1
        have La := Lib.hid (L9.out.ext ea)
        have Ea := Lib.hid ((E9.out.trans ea).alloc (.cells #[.string x.Name, .int .i64 x.Hue, .int .i64 x.Width, .int .i64 x.Dark, .int .i64 x.Light] 46) |>.alloc (.cells #[.string y.Name, .int .i64 y.Hue, .int .i64 y.Width, .int .i64 y.Dark, .int .i64 y.Light] 46))
        have oy := own_block (wa.alloc (.cells #[.string x.Name, .int .i64 x.Hue, .int .i64 x.Width, .int .i64 x.Dark, .int .i64 x.Light] 46)) 46 y.cs
        simp only [World.size_alloc] at oy
        have BX := Lib.hid (((Ext.refl _).alloc (.cells #[.string y.Name, .int .i64 y.Hue, .int .i64 y.Width, .int .i64 y.Dark, .int .i64 y.Light] 46)).own (own_block wa 46 x.cs))
        have BY := Lib.hid oy
        have Eb := Lib.hid (((Ext.refl wa).alloc (.cells #[.string x.Name, .int .i64 x.Hue, .int .i64 x.Width, .int .i64 x.Dark, .int .i64 x.Light] 46)).alloc (.cells #[.string y.Name, .int .i64 y.Hue, .int .i64 y.Width, .int .i64 y.Dark, .int .i64 y.Light] 46))
        clear oy hx hy ea L9 E9
        obtain ⟨s1, s2⟩ := overlap_sym y.Name x.Name y.Hue y.Width y.Dark y.Light x.Hue x.Width x.Dark x.Light
        have S1 := Lib.hid s1
        have S2 := Lib.hid s2
        clear s1 s2
        have DI := Lib.hid (fun (wx : World) => DoOverlapI_any x.Name y.Name x.Hue x.Width x.Dark x.Light y.Hue y.Width y.Dark y.Light hxn hyn wx)
        have DS := Lib.hid (fun (wx : World) => DoOverlapS_any x.Name y.Name x.Hue x.Width x.Dark x.Light y.Hue y.Width y.Dark y.Light hxn hyn wx)
        have DB := Lib.hid (fun (wx : World) => DoOverlapI_any y.Name x.Name y.Hue y.Width y.Dark y.Light x.Hue x.Width x.Dark x.Light hyn hxn wx)
        rw [S1.out, S2.out] at DB
        generalize overlapR x.Name y.Name x.Hue x.Width x.Dark x.Light y.Hue y.Width y.Dark y.Light = ro at *
        generalize overlapOk x.Name y.Name x.Hue x.Width x.Dark x.Light y.Hue y.Width y.Dark y.Light = oo at *
        clear S1 S2
        go_wp2_with fail
        refine (DI.out _).mono ?_
        rintro e wb ⟨rfl, eb⟩
        have u0 := own_at (eb.own BX.out) (j := 0) rfl
        have v0 := own_at (eb.own BY.out) (j := 0) rfl
        have u1 := own_at (eb.own BX.out) (j := 1) rfl
        have v1 := own_at (eb.own BY.out) (j := 1) rfl
        have u2 := own_at (eb.own BX.out) (j := 2) rfl
        have v2 := own_at (eb.own BY.out) (j := 2) rfl
        have u3 := own_at (eb.own BX.out) (j := 3) rfl
        have v3 := own_at (eb.own BY.out) (j := 3) rfl
        have u4 := own_at (eb.own BX.out) (j := 4) rfl
        have v4 := own_at (eb.own BY.out) (j := 4) rfl
        have zb : wa.heap.size + 1 < wb.heap.size := World.block_lt_of_cell? wb _ v0
        go_wp2_with fail
        refine (DS.out _).mono ?_
        rintro e wd ⟨rfl, ed⟩
        clear u0 u1 u2 u3 u4 v0 v1 v2 v3 v4 zb
        have EBD := Lib.hid (eb.trans ed)
        clear eb ed
        have u0 := own_at (EBD.out.own BX.out) (j := 0) rfl
        have v0 := own_at (EBD.out.own BY.out) (j := 0) rfl
        have u1 := own_at (EBD.out.own BX.out) (j := 1) rfl
        have v1 := own_at (EBD.out.own BY.out) (j := 1) rfl
        have u2 := own_at (EBD.out.own BX.out) (j := 2) rfl
        have v2 := own_at (EBD.out.own BY.out) (j := 2) rfl
        have u3 := own_at (EBD.out.own BX.out) (j := 3) rfl
        have v3 := own_at (EBD.out.own BY.out) (j := 3) rfl
        have u4 := own_at (EBD.out.own BX.out) (j := 4) rfl
        have v4 := own_at (EBD.out.own BY.out) (j := 4) rfl
        have zd : wa.heap.size + 1 < wd.heap.size := World.block_lt_of_cell? wd _ v0
        go_wp2_with fail
        refine (DB.out _).mono ?_
        rintro e we ⟨rfl, ee⟩
        clear u0 u1 u2 u3 u4 v0 v1 v2 v3 v4 zd
        have EBE := Lib.hid (EBD.out.trans ee)
        have Le := Lib.hid (La.out.ext (Eb.out.trans EBE.out))
        clear ee EBD DI DS DB
        go_wp2_with fail
        refine (OverlapPairsI_any B m mc xs _ Le.out hmc9).mono ?_
        rintro e wf ⟨A5, m5, c5, zs5, rfl, hl5, hs5, o5, e5⟩
        go_wp2_with fail
        refine (OverlapPairsS_any B m mc xs _ (Le.out.ext e5)).mono ?_
        rintro e wg ⟨A6, m6, c6, zs6, rfl, hl6, hs6, o6, e6⟩
        have hpl := pairsR_len xs
        have hm5 : m5 = (pairsR xs).length := by rw [← hs5, List.length_map, hl5]
        have hm6 : m6 = m5 := by rw [hm5, ← hs6, List.length_map, hl6]
        subst hm6
        have O5 := Lib.hid (o5.ext e6)
        have O6 := Lib.hid o6
        have HL5 := Lib.hid hl5
        have HL6 := Lib.hid hl6
        have HS56 := Lib.hid (hs5.trans hs6.symm)
        have hm144 : m6 ≤ 144 := by omega
        have EBG := Lib.hid (EBE.out.trans (e5.trans e6))
        have Lg := Lib.hid (Le.out.ext (e5.trans e6))
        clear o5 o6 hl5 hl6 hs5 hs6 e5 e6 hm5 hpl EBE Le
        generalize hso : shadesOk xs = so at *
        have HSO := Lib.hid hso
        clear hso
        go_wp2_with fail
        refine (rPairs_same _ _ _ _ _ _ _ zs5 zs6 _ (by omega) HL5.out HL6.out HS56.out O5.out O6.out).mono ?_
        rintro e wh ⟨rfl, eh⟩
        have Lh := Lib.hid (Lg.out.ext eh)
        have EF := Lib.hid (Ea.out.trans (EBG.out.trans eh))
        have BXh := Lib.hid ((EBG.out.trans eh).own BX.out)
        have CI := Lib.hid (fun (wx : World) => IsShadeI_any x.Name x.Hue x.Width x.Dark x.Light hxn wx)
        have CS := Lib.hid (fun (wx : World) => IsShadeS_any x.Name x.Hue x.Width x.Dark x.Light hxn wx)
        have CA := Lib.hid (fun (wx : World) (hx : Ext wh wx) => AreShadesI_any B m mc xs wx (Lh.out.ext hx).len (Lh.out.ext hx).small (Lh.out.ext hx).wf (Lh.out.ext hx).rd)
        have CB := Lib.hid (fun (wx : World) (hx : Ext wh wx) => AreShadesS_any B m mc xs wx (Lh.out.ext hx).len (Lh.out.ext hx).small (Lh.out.ext hx).wf (Lh.out.ext hx).rd)
        rw [HSO.out] at CA CB
        generalize shOk x.Name x.Hue x.Width x.Dark x.Light = sx at *
        have u0 := own_at BXh.out (j := 0) rfl
        have u1 := own_at BXh.out (j := 1) rfl
        have u2 := own_at BXh.out (j := 2) rfl
        have u3 := own_at BXh.out (j := 3) rfl
        have u4 := own_at BXh.out (j := 4) rfl
        have zh : wa.heap.size < wh.heap.size := World.block_lt_of_cell? wh _ u0
        clear BX BY BXh O5 O6 EBG eh Lg
        go_wp2
        (refine wp_region_ext_lit (by kernel_rfl) (by kernel_rfl) ?_; (repeat (go_big_quiet_step ((first | (go_at_call 27; exact ext_call (CI.out _)) | (go_at_call 28; exact ext_call (CS.out _)) | (go_at_call 29; exact ext_call (CA.out _ (ExtOf.ext _))) | (go_at_call 30; exact ext_call (CB.out _ (ExtOf.ext _))))))); refine wpQuiet_nil ?_; rintro wq ⟨⟨_, heq⟩, rfl⟩; (try dsimp only))
        have EZ := Lib.hid (EF.out.trans heq)
        go_wp2
        go_ret
        exact ⟨rfl, EZ.out⟩
end Go.Proofs.Ytekfccfghmggmaa
