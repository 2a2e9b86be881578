/- The law FnCombs. -/
import Derived.Test.YtoafaejhabjlnaaDoorDrawCombD
import Derived.Deep.DeepCutAuto
import Derived.Deep.CutBlock
namespace Go.Proofs.YtoafaejhabjlnaaDoor
open Go.RowKit
set_option linter.unusedVariables false
set_option linter.unusedSimpArgs false
attribute [local go_sem] ExtOf.cell

set_option maxRecDepth 100000 in
set_option maxHeartbeats 8000000 in
theorem FnCombs_any (A : Option Addr) (n c : Nat) (l : List Int) (w : World) (h : CodeOk w A n l) (ht : TabOkW w) :
    Calls Tryd.prog 3 #[.slice A n c] w fun e w' => e = .returned (.bool true) ∧ Ext w w' := by
  have HC := Lib.hid h
  have HT := Lib.hid ht
  have hsm := h.small
  clear h ht
  by_cases hbig : 65536 < (n : Int)
  · have hd : decide (65536 < (n : Int)) = true := by simpa using hbig
    go_enter Tryd.func3, Tryd.ntmps3
    go_wp2_with (go_at_call 4; refine (rBig_any A n c w hsm).mono ?_; rintro e w' ⟨rfl, rfl⟩)
    go_ret
    exact ⟨rfl, Ext.refl _⟩
  have hd : decide (65536 < (n : Int)) = false := by simpa using hbig
  clear hbig
  go_enter Tryd.func3, Tryd.ntmps3
  go_wp2_with fail
  refine (rBig_any A n c w hsm).mono ?_
  rintro e w' ⟨rfl, rfl⟩
  go_wp2_with fail
  refine (DrawMatchCombs_any A n c l _ HC.out).mono ?_
  rintro e w1 ⟨B, m, mc, wd, hi, off, xs, rfl, hm, hL, e1⟩
  have L1 := Lib.hid hL
  have E1 := Lib.hid e1
  clear hL e1
  go_wp2_with fail
  refine (MatchCombsI_any B m mc xs wd hi off _ L1.out).mono ?_
  rintro e w2 ⟨A2, m2, c2, rfl, o2, e2⟩
  go_wp2_with fail
  refine (MatchCombsS_any B m mc xs wd hi off _ (L1.out.ext e2)).mono ?_
  rintro e w3 ⟨A3, m3, c3, rfl, o3, e3⟩
  have HLen := Lib.hid L1.out.len
  have hl2 : (matchR xs wd hi off).length = m2 := by have := o2.1; rw [ints_length] at this; omega
  have hl3 : m3 = m2 := by have := o3.1; rw [ints_length] at this; omega
  subst hl3
  have hm3 : m3 ≤ m := by rw [← hl2, ← HLen.out]; exact match_len xs wd hi off
  have O2 := Lib.hid (e3.own o2)
  have O3 := Lib.hid o3
  have L3 := Lib.hid (L1.out.ext (e2.trans e3))
  have E3 := Lib.hid (E1.out.trans (e2.trans e3))
  have HL2 := Lib.hid hl2
  clear o2 o3 e2 e3 hl2 L1 E1
  have HTurn := Lib.hid (fun (hq : askC xs wd hi off = true) (x : Comb) (hx : x ∈ xs) => turn_law hq hx)
  have HAsk := Lib.hid (askC_turn xs wd hi off)
  go_wp2_with fail
  refine (rInts_same A2 A3 m3 c2 c3 _ _ (by omega) (Rd.own O2.out) (Rd.own O3.out)).mono ?_
  rintro e w4 ⟨rfl, e4⟩
  have R4 := Lib.hid (Rd.own (e4.own O2.out))
  have L4 := Lib.hid (L3.out.ext e4)
  have E4 := Lib.hid (E3.out.trans e4)
  clear O2 O3 L3 E3 e4
  go_wp2_with fail
  refine (TurnedCombsI_any B m mc xs wd hi off _ L4.out).mono ?_
  rintro e w5 ⟨A5, m5, c5, rfl, o5, e5⟩
  go_wp2_with fail
  refine (TurnedCombsS_any B m mc xs wd hi off _ (L4.out.ext e5)).mono ?_
  rintro e w6 ⟨A6, m6, c6, rfl, o6, e6⟩
  have hl5 : (turnR xs wd hi off).length = m5 := by have := o5.1; rw [ints_length] at this; omega
  have hl6 : m6 = m5 := by have := o6.1; rw [ints_length] at this; omega
  subst hl6
  have hm6 : m6 ≤ m := by rw [← hl5, ← HLen.out]; exact turn_len xs wd hi off
  have O5 := Lib.hid (e6.own o5)
  have O6 := Lib.hid o6
  have L6 := Lib.hid (L4.out.ext (e5.trans e6))
  have E6 := Lib.hid (E4.out.trans (e5.trans e6))
  have R6 := Lib.hid (R4.out.ext (e5.trans e6))
  have HL5 := Lib.hid hl5
  clear o5 o6 e5 e6 hl5 L4 E4 R4
  go_wp2_with fail
  refine (rInts_same A5 A6 m6 c5 c6 _ _ (by omega) (Rd.own O5.out) (Rd.own O6.out)).mono ?_
  rintro e w7 ⟨rfl, e7⟩
  have T7 := Lib.hid (Rd.own (e7.own O5.out))
  have R7 := Lib.hid (R6.out.ext e7)
  have L7 := Lib.hid (L6.out.ext e7)
  have E7 := Lib.hid (E6.out.trans e7)
  clear O5 O6 L6 E6 R6 e7
  go_wp2_with fail
  refine (MatchCombsI_any B m mc xs hi wd off _ L7.out).mono ?_
  rintro e w8 ⟨A8, m8, c8, rfl, o8, e8⟩
  rw [HAsk.out]
  have hl8 : (matchR xs hi wd off).length = m8 := by have := o8.1; rw [ints_length] at this; omega
  have hm8 : m8 ≤ m := by rw [← hl8, ← HLen.out]; exact match_len xs hi wd off
  have U8 := Lib.hid (Rd.own o8)
  have HL8 := Lib.hid hl8
  have T8 := Lib.hid (T7.out.ext e8)
  have R8 := Lib.hid (R7.out.ext e8)
  have L8 := Lib.hid (L7.out.ext e8)
  have E8 := Lib.hid (E7.out.trans e8)
  clear o8 hl8 e8 T7 R7 L7 E7
  generalize askC xs wd hi off = ok at *
  generalize matchR xs wd hi off = ls at *
  generalize turnR xs wd hi off = ts at *
  generalize matchR xs hi wd off = us at *
  obtain ⟨w8, rfl⟩ : ∃ wq : World, wq = w8 := ⟨_, rfl⟩
  go_upto_block 0 with fail
  go_cut [17, 18] (fun s1 s2 W => Ext w8 W)
  case first =>
    go_wp2_with fail
    cases ok
    · go_loopw [17] (fun i wr => i = .int .i64 0 ∧ Ext w8 wr) (fun i _ => 1)
      case atStart => exact ⟨rfl, Ext.refl _⟩
      case round =>
        obtain ⟨rfl, he⟩ := hrel
        go_wp2
        all_goals
          go_meet
          exact he
    · go_loopw [17] (fun i wr => ∃ k : Nat, k ≤ m ∧ i = .int .i64 k ∧ Ext w8 wr) (fun i _ => m - (intOf i).toNat)
      case atStart => exact ⟨0, Nat.zero_le _, rfl, Ext.refl _⟩
      case round =>
        obtain ⟨k, hk, rfl, he⟩ := hrel
        by_cases hlt : k < m
        · have hdk : decide ((k : Int) < (m : Int)) = true := by simp; omega
          obtain ⟨b, ob, x, eA, hb, hx, g0, g1, g2, g3⟩ := (L8.out.ext he).at_ hlt
          subst eA
          have HLaw := Lib.hid (HTurn.out rfl x (List.mem_of_getElem? hx.out))
          have CT := Lib.hid (fun (wx : World) (hx : Ext w8 wx) => rHas_any A5 m6 c5 ts x.Id wx HL5.out (by omega) (T8.out.ext hx))
          have CU := Lib.hid (fun (wx : World) (hx : Ext w8 wx) => rHas_any A8 m8 c8 us x.Id wx HL8.out (by omega) (U8.out.ext hx))
          have CL := Lib.hid (fun (wx : World) (hx : Ext w8 wx) => rHas_any A2 m3 c2 ls x.Id wx HL2.out (by omega) (R8.out.ext hx))
          rw [HLaw.out] at CT
          generalize hasI ls x.Id = bl at *
          generalize hasI us x.Id = bu at *
          clear hx HLaw
          cases bu
          · go_wp2_with fail
            refine (CT.out _ he).mono ?_
            rintro e w9 ⟨rfl, e9⟩
            clear g0 g1 g2 g3 hb
            go_wp2_with fail
            refine (CU.out _ (he.trans e9)).mono ?_
            rintro e wa ⟨rfl, ea⟩
            have EA := Lib.hid (he.trans (e9.trans ea))
            clear e9 ea
            go_wp2
            go_roundw
            case rel => exact ⟨k + 1, by omega, by go_num, EA.out⟩
            case measure => simp [intOf]; omega
          · go_wp2_with fail
            refine (CT.out _ he).mono ?_
            rintro e w9 ⟨rfl, e9⟩
            clear g0 g1 g2 g3 hb
            go_wp2_with fail
            refine (CU.out _ (he.trans e9)).mono ?_
            rintro e wa ⟨rfl, ea⟩
            have EA := Lib.hid (he.trans (e9.trans ea))
            clear e9 ea
            go_wp2_with fail
            refine (CL.out _ EA.out).mono ?_
            rintro e wb ⟨rfl, eb⟩
            have EB := Lib.hid (EA.out.trans eb)
            clear EA eb
            cases bl
            all_goals
              go_wp2
              go_roundw
              case rel => exact ⟨k + 1, by omega, by go_num, EB.out⟩
              case measure => simp [intOf]; omega
        · have hdk : decide ((k : Int) < (m : Int)) = false := by simp; omega
          go_wp2
          go_meet
          exact he
  case rest =>
    have L9 := Lib.hid (L8.out.ext hcut)
    have E9 := Lib.hid (E8.out.trans hcut)
    clear L8 E8 R8 T8 U8 HL2 HL5 HL8 HTurn HAsk hcut hm3 hm6 hm8
    obtain ⟨w9, rfl⟩ : ∃ wq : World, wq = wc := ⟨_, rfl⟩
    go_wp2_with fail
    refine (SameGaugesI_any B m mc xs _ L9.out).mono ?_
    rintro e wa ⟨A2, m2, c2, zs, rfl, hzs, hzl, hls, ea⟩
    go_wp2_with fail
    refine (SameGaugesS_any B m mc xs _ (L9.out.ext ea)).mono ?_
    rintro e wb ⟨A3, m3, c3, zs', rfl, hzs', hzl', hls', eb⟩
    have hRl : (sameR xs).length ≤ m := by have := same_len xs; have := HLen.out; omega
    have hm2 : m2 = (sameR xs).length := by rw [← hzs, List.length_map, hzl]
    have hm3 : m3 = m2 := by rw [hm2, ← hzs', List.length_map, hzl']
    subst hm3
    have hEach := Lib.hid (show ∀ g ∈ sameR xs, g.length ≤ 40 from fun g hg => by have := same_each hg; have := HLen.out; omega)
    have HZE := Lib.hid (show ∀ z ∈ zs, z.2.length ≤ 1048576 from fun z hz => by
      have := hEach.out z.2 (by rw [← hzs]; exact List.mem_map.2 ⟨z, hz, rfl⟩)
      omega)
    have LA := Lib.hid (hls.ext eb)
    have LB := Lib.hid hls'
    have HZS := Lib.hid hzs
    have HZS2 := Lib.hid hzs'
    have HZL := Lib.hid hzl
    have HZL2 := Lib.hid hzl'
    have HSum := Lib.hid (fun (hh : CombsOk xs = true) => same_sum hh)
    have HM2 := Lib.hid hm2
    have L10 := Lib.hid (L9.out.ext (ea.trans eb))
    have E10 := Lib.hid (E9.out.trans (ea.trans eb))
    clear hls hls' hzs hzs' hzl hzl' ea eb L9 E9 hm2
    generalize hkn : CombsOk xs = kn at *
    have HKN := Lib.hid hkn
    clear hkn
    have hm40 : m3 ≤ 40 := by have := HM2.out; omega
    go_wp2_with fail
    refine (rTable_same A2 A3 m3 c2 c3 _ _ zs zs' _ (by omega) HZL.out HZL2.out (HZS.out.trans HZS2.out.symm) HZE.out LA.out LB.out).mono ?_
    rintro e wd' ⟨rfl, ed⟩
    have LD := Lib.hid (LA.out.ext ed)
    have L11 := Lib.hid (L10.out.ext ed)
    have E11 := Lib.hid (E10.out.trans ed)
    have HSB := Lib.hid (fun (k : Nat) => sumK_bd hEach.out k)
    clear LA LB L10 E10 ed hRl HZE HZS2 HZL2
    obtain ⟨we, rfl⟩ : ∃ wq : World, wq = wd' := ⟨_, rfl⟩
    go_upto_block 2 with fail
    go_cut [23, 24] (fun q s1 W => ∃ sv : Nat, q = .int .i64 sv ∧ Hid (sv = sumN (sameR xs)) ∧ Ext we W)
    case first =>
      go_wp2_with fail
      go_loopw [23, 24] (fun q i wr => ∃ k : Nat, k ≤ m3 ∧ i = .int .i64 k ∧ q = .int .i64 (sumK (sameR xs) k : Nat) ∧ Ext we wr) (fun _ i _ => m3 - (intOf i).toNat)
      case atStart => exact ⟨0, Nat.zero_le _, rfl, rfl, Ext.refl _⟩
      case round =>
        obtain ⟨k, hk, rfl, rfl, he⟩ := hrel
        have hb1 := HSB.out k
        have hb2 := HSB.out (k + 1)
        have hmm := HM2.out
        by_cases hlt : k < m3
        · have hdk : decide ((k : Int) < (m3 : Int)) = true := by simp; omega
          obtain ⟨q, C, e, l', eA, hq, hz, hcell, hele⟩ := (LD.out.ext he).get hlt HZL.out
          subst eA
          have hsk := Lib.hid (sumK_succ (snd_get HZS.out hz.out))
          have hll := hEach.out l' (List.mem_of_getElem? (snd_get HZS.out hz.out))
          have HSK := Lib.hid (show ((sumK (sameR xs) (k + 1) : Nat) : Int) = (sumK (sameR xs) k : Nat) + (l'.length : Nat) by rw [hsk.out]; rfl)
          have hb3 : sumK (sameR xs) k ≤ 1600 := by
            have h9 : (sameR xs).length * 40 ≤ 1600 := by omega
            omega
          clear hele hz hsk hb1 hb2
          generalize sumK (sameR xs) k = sk at *
          go_wp2
          go_roundw
          case rel => exact ⟨k + 1, by omega, by go_num, by rw [HSK.out], he⟩
          case measure => simp [intOf]; omega
        · obtain rfl : k = m3 := by omega
          have hdk : decide ((k : Int) < (k : Int)) = false := by simp
          have HE := Lib.hid (sumK_end HM2.out.symm)
          clear hb1 hb2 hmm
          go_wp2
          go_meet
          exact ⟨_, rfl, HE.out, he⟩
    case rest =>
      obtain ⟨sv, rfl, hsv, e12⟩ := hcut
      have L12 := Lib.hid (L11.out.ext e12)
      have E12 := Lib.hid (E11.out.trans e12)
      have HKM := Lib.hid (show kn = true → (sv : Int) = (m : Int) from fun hh => by rw [hsv.out, HSum.out hh, HLen.out])
      clear L11 E11 e12 LD HZS HZL HSum HM2 HSB hEach hsv HKN
      obtain ⟨w12, rfl⟩ : ∃ wq : World, wq = wc := ⟨_, rfl⟩
      have CA := Lib.hid (fun (wx : World) (hx : Ext w12 wx) => AreCombsI_any B m mc xs wx (L12.out.ext hx))
      have CB := Lib.hid (fun (wx : World) (hx : Ext w12 wx) => AreCombsS_any B m mc xs wx (L12.out.ext hx))
      generalize CombsOk xs = ck at CA CB
      have hkq : kn = false ∨ kn = true ∧ (sv : Int) = (m : Int) := by
        cases kn
        · exact .inl rfl
        · exact .inr ⟨rfl, HKM.out rfl⟩
      clear HKM
      rcases hkq with rfl | ⟨rfl, hsm⟩
      rotate_left
      · obtain rfl : sv = m := by omega
        clear hsm
        have hdd : decide ((sv : Int) = (sv : Int)) = true := by simp
        go_wp2_with fail
        refine (DrawGaugeText_any A n c l _ (HC.out.ext E12.out)).mono ?_
        rintro e wa ⟨ga, rfl, ea⟩
        have EA := Lib.hid (E12.out.trans ea)
        have EA12 := Lib.hid ea
        clear ea
        have GI := Lib.hid (fun (wx : World) (hx : Ext w wx) => GaugeTextI_any ga wx (HT.out.ext hx))
        have GS := Lib.hid (fun (wx : World) => GaugeTextS_any ga wx)
        generalize ggT ga = gt at *
        generalize gOk ga = gk at *
        go_wp2_with fail
        refine (GI.out _ EA.out).mono ?_
        rintro e wb ⟨rfl, eb⟩
        go_wp2_with fail
        refine (GS.out _).mono ?_
        rintro e wf ⟨rfl, ef⟩
        have EF := Lib.hid (EA.out.trans (eb.trans ef))
        have EF12 := Lib.hid (EA12.out.trans (eb.trans ef))
        clear eb ef EA EA12 GI GS
        go_wp2_with fail
        refine (DrawCombText_any A n c l _ (HC.out.ext EF.out)).mono ?_
        rintro e wg ⟨r, rfl, eg⟩
        have BX := Lib.hid (own_block wg 32 r.cs)
        have EG := Lib.hid ((EF.out.trans eg).alloc (.cells #[.int .i64 r.Id, .int .i64 r.Wide, .int .i64 r.High, .bool r.Line] 32))
        have EG12 := Lib.hid ((EF12.out.trans eg).alloc (.cells #[.int .i64 r.Id, .int .i64 r.Wide, .int .i64 r.High, .bool r.Line] 32))
        have XI := Lib.hid (fun (wx : World) (hx : Ext w wx) => CombTextI_any r.Id r.Wide r.High r.Line wx (HT.out.ext hx))
        have XS := Lib.hid (fun (wx : World) => CombTextS_any r.Id r.Wide r.High r.Line wx)
        generalize combT r.Id r.Wide r.High r.Line = ct at *
        generalize cbOk r.Id r.Wide r.High = cb at *
        clear eg EF EF12
        go_wp2_with fail
        refine (XI.out _ EG.out).mono ?_
        rintro e wh ⟨rfl, eh⟩
        have u0 := own_at (eh.own BX.out) (j := 0) rfl
        have u1 := own_at (eh.own BX.out) (j := 1) rfl
        have u2 := own_at (eh.own BX.out) (j := 2) rfl
        have u3 := own_at (eh.own BX.out) (j := 3) rfl
        have zh : wg.heap.size < wh.heap.size := World.block_lt_of_cell? wh _ u0
        go_wp2_with fail
        refine (XS.out _).mono ?_
        rintro e wi ⟨rfl, ei⟩
        clear u0 u1 u2 u3 zh
        have EI := Lib.hid (EG.out.trans (eh.trans ei))
        have EI12 := Lib.hid (EG12.out.trans (eh.trans ei))
        clear eh ei EG EG12 BX XI XS
        go_wp2_with fail
        refine (CA.out _ EI12.out).mono ?_
        rintro e wj ⟨rfl, ej⟩
        go_wp2_with fail
        refine (CB.out _ (EI12.out.trans ej)).mono ?_
        rintro e wk ⟨rfl, ek⟩
        have EZ := Lib.hid (EI.out.trans (ej.trans ek))
        go_wp2
        go_ret
        exact ⟨rfl, EZ.out⟩
      · go_wp2_with fail
        refine (DrawGaugeText_any A n c l _ (HC.out.ext E12.out)).mono ?_
        rintro e wa ⟨ga, rfl, ea⟩
        have EA := Lib.hid (E12.out.trans ea)
        have EA12 := Lib.hid ea
        clear ea
        have GI := Lib.hid (fun (wx : World) (hx : Ext w wx) => GaugeTextI_any ga wx (HT.out.ext hx))
        have GS := Lib.hid (fun (wx : World) => GaugeTextS_any ga wx)
        generalize ggT ga = gt at *
        generalize gOk ga = gk at *
        go_wp2_with fail
        refine (GI.out _ EA.out).mono ?_
        rintro e wb ⟨rfl, eb⟩
        go_wp2_with fail
        refine (GS.out _).mono ?_
        rintro e wf ⟨rfl, ef⟩
        have EF := Lib.hid (EA.out.trans (eb.trans ef))
        have EF12 := Lib.hid (EA12.out.trans (eb.trans ef))
        clear eb ef EA EA12 GI GS
        go_wp2_with fail
        refine (DrawCombText_any A n c l _ (HC.out.ext EF.out)).mono ?_
        rintro e wg ⟨r, rfl, eg⟩
        have BX := Lib.hid (own_block wg 32 r.cs)
        have EG := Lib.hid ((EF.out.trans eg).alloc (.cells #[.int .i64 r.Id, .int .i64 r.Wide, .int .i64 r.High, .bool r.Line] 32))
        have EG12 := Lib.hid ((EF12.out.trans eg).alloc (.cells #[.int .i64 r.Id, .int .i64 r.Wide, .int .i64 r.High, .bool r.Line] 32))
        have XI := Lib.hid (fun (wx : World) (hx : Ext w wx) => CombTextI_any r.Id r.Wide r.High r.Line wx (HT.out.ext hx))
        have XS := Lib.hid (fun (wx : World) => CombTextS_any r.Id r.Wide r.High r.Line wx)
        generalize combT r.Id r.Wide r.High r.Line = ct at *
        generalize cbOk r.Id r.Wide r.High = cb at *
        clear eg EF EF12
        go_wp2_with fail
        refine (XI.out _ EG.out).mono ?_
        rintro e wh ⟨rfl, eh⟩
        have u0 := own_at (eh.own BX.out) (j := 0) rfl
        have u1 := own_at (eh.own BX.out) (j := 1) rfl
        have u2 := own_at (eh.own BX.out) (j := 2) rfl
        have u3 := own_at (eh.own BX.out) (j := 3) rfl
        have zh : wg.heap.size < wh.heap.size := World.block_lt_of_cell? wh _ u0
        go_wp2_with fail
        refine (XS.out _).mono ?_
        rintro e wi ⟨rfl, ei⟩
        clear u0 u1 u2 u3 zh
        have EI := Lib.hid (EG.out.trans (eh.trans ei))
        have EI12 := Lib.hid (EG12.out.trans (eh.trans ei))
        clear eh ei EG EG12 BX XI XS
        go_wp2_with fail
        refine (CA.out _ EI12.out).mono ?_
        rintro e wj ⟨rfl, ej⟩
        go_wp2_with fail
        refine (CB.out _ (EI12.out.trans ej)).mono ?_
        rintro e wk ⟨rfl, ek⟩
        have EZ := Lib.hid (EI.out.trans (ej.trans ek))
        go_wp2
        go_ret
        exact ⟨rfl, EZ.out⟩
end Go.Proofs.YtoafaejhabjlnaaDoor
