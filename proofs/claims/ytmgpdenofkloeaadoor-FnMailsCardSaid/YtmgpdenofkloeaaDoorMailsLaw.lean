/- The law FnMails. -/
import Derived.Test.YtmgpdenofkloeaaDoorRouteP
import Derived.Test.YtmgpdenofkloeaaDoorMailX
import Derived.Test.YtmgpdenofkloeaaDoorMailText
import Derived.Test.YtmgpdenofkloeaaDoorVs
import Derived.Test.YtmgpdenofkloeaaDoorDrawMailD
import Derived.Deep.DeepCutAuto
namespace Go.Proofs.YtmgpdenofkloeaaDoor
open Go.RowKit
set_option linter.unusedVariables false
set_option linter.unusedSimpArgs false
attribute [local go_sem] ExtOf.cell

set_option maxRecDepth 100000 in
set_option maxHeartbeats 4000000 in
theorem FnMails_any (A : Option Addr) (n c : Nat) (l : List Int) (w : World) (h : CodeOk w A n l) (ht : TabOkW w) :
    Calls Tryd.prog 3 #[.slice A n c] w fun e w' => e = .returned (.bool true) ∧ Ext w w' := by
  have HC := Lib.hid h
  have HT := Lib.hid ht
  have hsm := h.small
  clear h ht
  by_cases hbig : 65536 < (n : Int)
  · have hd : decide (65536 < (n : Int)) = true := by simpa using hbig
    go_enter Tryd.func3, Tryd.ntmps3
    go_wp2_with (go_at_call 4; refine (vBig_any A n c w hsm).mono ?_; rintro e w' ⟨rfl, rfl⟩)
    go_ret
    exact ⟨rfl, Ext.refl _⟩
  have hd : decide (65536 < (n : Int)) = false := by simpa using hbig
  clear hbig
  go_enter Tryd.func3, Tryd.ntmps3
  go_wp2_with fail
  refine (vBig_any A n c w hsm).mono ?_
  rintro e w' ⟨rfl, rfl⟩
  go_wp2_with fail
  refine (DrawLatestLeave_any A n c l _ HC.out).mono ?_
  rintro e w1 ⟨B, m, mc, f, t, y, rfl, ⟨xs, hmc, hL⟩, e1⟩
  have L1 := Lib.hid hL
  have hms := hL.small
  clear hL hmc
  go_wp2_with fail
  refine (LatestLeaveI_any B m mc xs f t y _ L1.out).mono ?_
  rintro e w2 ⟨rfl, e2⟩
  go_wp2_with fail
  refine (LatestLeaveS_any B m mc xs f t y _ (L1.out.ext e2)).mono ?_
  rintro e w3 ⟨rfl, e3⟩
  have L3 := Lib.hid (L1.out.ext (e2.trans e3))
  have E3 := Lib.hid (e1.trans (e2.trans e3))
  clear e1 e2 e3 L1
  have HL := Lib.hid (fun (hh : hasL xs f t y = true) => late_law hh)
  generalize lateR xs f t y = v at *
  generalize hasL xs f t y = ok at *
  go_upto_if 72 with fail
  go_cut [11, 12, 13, 14] (fun s1 s2 s3 s4 W => Ext w W)
  case first =>
    cases ok
    · go_wp2
      go_meet
      exact E3.out
    · obtain ⟨⟨q1, q2⟩, q3, q4, q5⟩ := HL.out rfl
      have Q1 := Lib.hid q1
      have Q2 := Lib.hid q2
      have Q3 := Lib.hid q3
      clear q1 q2 q3 HL
      go_wp2_with fail
      refine (EarliestAtI_any B m mc xs f v t _ L3.out).mono ?_
      rintro e w4 ⟨rfl, e4⟩
      rw [Q1.out]
      have q2 := Q2.out
      clear Q1 Q2
      generalize earlR xs f v t = a1 at *
      have d1 : decide (y < a1) = false := by simp; omega
      have d1' : decide (a1 ≤ y) = true := by simp; omega
      go_wp2_with fail
      refine (EarliestAtI_any B m mc xs f (v + 1) t _ (L3.out.ext e4)).mono ?_
      rintro e w5 ⟨rfl, e5⟩
      have EJ := Lib.hid (E3.out.trans (e4.trans e5))
      have Q4 : hasE xs f (v + 1) t = false ∨ hasE xs f (v + 1) t = true ∧ decide (earlR xs f (v + 1) t ≤ y) = false := by
        cases hE : hasE xs f (v + 1) t
        · exact .inl rfl
        · exact .inr ⟨rfl, by have := Q3.out hE; simp; omega⟩
      clear e4 e5 L3 E3 q2 Q3 q4 q5
      generalize hasE xs f (v + 1) t = b2 at *
      generalize earlR xs f (v + 1) t = a2 at *
      rcases Q4 with rfl | ⟨rfl, d2⟩
      all_goals
        go_wp2
        go_meet
        exact EJ.out
  case rest =>
    clear E3 L3 HL
    have EJ := Lib.hid hcut
    clear hcut
    go_wp2_with fail
    clear hms
    refine (DrawMissedMails_any A n c l _ (HC.out.ext EJ.out)).mono ?_
    rintro e w1 ⟨B, m, mc, f, t, rfl, ⟨xs, hmc, hL⟩, e1⟩
    have L1 := Lib.hid hL
    have hms := hL.small
    clear hL hmc
    go_wp2_with fail
    refine (MissedMailsI_any B m mc xs f t _ L1.out).mono ?_
    rintro e w2 ⟨A2, m2, c2, rfl, o2, e2⟩
    go_wp2_with fail
    refine (MissedMailsS_any B m mc xs f t _ (L1.out.ext e2)).mono ?_
    rintro e w3 ⟨A3, m3, c3, rfl, o3, e3⟩
    have hl2 : (missR xs f t).length = m2 := by have := o2.1; rw [ints_length] at this; omega
    have hl3 : m3 = m2 := by have := o3.1; rw [ints_length] at this; omega
    subst hl3
    have hm20 : m3 ≤ m := by rw [← hl2]; exact miss_len L1.out.len
    have O2 := Lib.hid (e3.own o2)
    have O3 := Lib.hid o3
    have L3 := Lib.hid (L1.out.ext (e2.trans e3))
    have EK := Lib.hid (EJ.out.trans (e1.trans (e2.trans e3)))
    have HZ := Lib.hid (fun z (hz : z ∈ missR xs f t) => miss_law hz)
    clear o2 o3 e1 e2 e3 hl2 L1 EJ
    generalize missR xs f t = zs at *
    generalize askM xs f t = ok at *
    go_wp2_with fail
    refine (vInts_same A2 A3 m3 c2 c3 zs _ (by omega) (Rd.own O2.out) (Rd.own O3.out)).mono ?_
    rintro e w4 ⟨rfl, e4⟩
    have R4 := Lib.hid (Rd.own (e4.own O2.out))
    have L4 := Lib.hid (L3.out.ext e4)
    have E4 := Lib.hid (EK.out.trans e4)
    clear O2 O3 L3 EK e4
    go_wp2
    go_loopw [22] (fun i wr => ∃ k : Nat, k ≤ m3 ∧ i = .int .i64 k ∧ Ext w4 wr) (fun i _ => m3 - (intOf i).toNat)
    case atStart => exact ⟨0, Nat.zero_le _, rfl, Ext.refl _⟩
    case round =>
      obtain ⟨k, hk, rfl, he⟩ := hrel
      by_cases hlt : k < m3
      · obtain ⟨b, off, x, rfl, hb, hx, g0⟩ := (R4.out.ext he).int hlt
        obtain ⟨j, x, rfl, hj, hxj, hlaw⟩ := HZ.out _ (List.mem_of_getElem? hx.out)
        have L5 := Lib.hid (L4.out.ext he)
        have hjm : j < m := by have := L5.out.len; omega
        obtain ⟨b2, off2, x2, rfl, hb2, hx2, p0, p1, p2, p3⟩ := L5.out.at_ hjm
        obtain rfl : x = x2 := by have := hxj.symm.trans hx2.out; injection this
        have HLW := Lib.hid hlaw
        clear hxj hx2 hx hlaw
        have HW : hasE xs f t x.From = false ∨ hasE xs f t x.From = true ∧ decide (earlR xs f t x.From ≤ x.Leave) = false := by
          cases hE : hasE xs f t x.From
          · exact .inl rfl
          · exact .inr ⟨rfl, by have := HLW.out hE; simp; omega⟩
        have C1 := Lib.hid (fun (wx : World) (hx : Ext wr wx) => EarliestAtI_any _ m mc xs f t x.From wx (L5.out.ext hx))
        have BX := Lib.hid (own_block wr 36 x.cs)
        have EB := Lib.hid ((Ext.refl wr).alloc (.cells #[.int .i64 x.Leave, .int .i64 x.From, .int .i64 x.To, .int .i64 x.Arrive] 36))
        clear HLW
        generalize hasE xs f t x.From = hb9 at *
        generalize earlR xs f t x.From = ea9 at *
        have jz1 : (0 : Int) ≤ (j : Int) := by omega
        have jz2 : (j : Int) < (m : Int) := by omega
        go_wp2_with fail
        refine (C1.out _ EB.out).mono ?_
        rintro e wa ⟨rfl, ea⟩
        have y0 : wa.cell? ⟨wr.heap.size, 0, none⟩ = some (.int .i64 x.Leave) := own_at (ea.own BX.out) (j := 0) rfl
        have zb : wr.heap.size < wa.heap.size := World.block_lt_of_cell? wa _ y0
        have EA := Lib.hid (he.trans (EB.out.trans ea))
        clear p0 p1 p2 p3 g0 ea EB BX C1
        rcases HW with rfl | ⟨rfl, hd9⟩
        all_goals
          go_wp2
          go_roundw
          case rel => exact ⟨k + 1, by omega, by go_num, EA.out⟩
          case measure => simp [intOf]; omega
      · have hdk : decide ((k : Int) < (m3 : Int)) = false := by simp; omega
        have E5 := Lib.hid (E4.out.trans he)
        clear E4 R4 L4 he HZ
        go_wp2_with fail
        refine (DrawReachedBy_any A n c l _ (HC.out.ext E5.out)).mono ?_
        rintro e w5 ⟨B, m, mc, f, t, y, rfl, ⟨ys, hmc, hL⟩, e5⟩
        have L5 := Lib.hid hL
        have hms2 := hL.small
        clear hL hmc
        go_wp2_with fail
        refine (ReachedByI_any B m mc ys f t y _ L5.out).mono ?_
        rintro e w6 ⟨A2, m2, c2, rfl, o2, e6⟩
        go_wp2_with fail
        refine (ReachedByS_any B m mc ys f t y _ (L5.out.ext e6)).mono ?_
        rintro e w7 ⟨A3, m4, c3, rfl, o3, e7⟩
        have hl2 : (reachR ys f t y).length = m2 := by have := o2.1; rw [ints_length] at this; omega
        have hl3 : m4 = m2 := by have := o3.1; rw [ints_length] at this; omega
        subst hl3
        have hm10 : m4 ≤ 10 := by rw [← hl2]; exact reach_len
        have HLn := Lib.hid hl2
        have O2 := Lib.hid (e7.own o2)
        have O3 := Lib.hid o3
        have E7 := Lib.hid (E5.out.trans (e5.trans (e6.trans e7)))
        have HSf := Lib.hid (fun (hh : askR ys f t y = true) => (show decide (f ∈ reachR ys f t y) = true by simpa using reach_self hh))
        clear o2 o3 e5 e6 e7 hl2 L5 E5
        generalize reachR ys f t y = zs2 at *
        cases hA : askR ys f t y
        focus
          clear hA HSf
          go_wp2_with fail
          refine (vInts_same A2 A3 m4 c2 c3 zs2 _ (by omega) (Rd.own O2.out) (Rd.own O3.out)).mono ?_
          rintro e w8 ⟨rfl, e8⟩
          have EJ := Lib.hid (E7.out.trans e8)
          clear O2 O3 E7 e8 HLn
          obtain ⟨wj, rfl⟩ : ∃ wj : World, wj = w8 := ⟨_, rfl⟩
          go_wp2_with fail
        rotate_left
        focus
          have hs := HSf.out hA
          have HS2 := Lib.hid hs
          clear hA hs HSf
          go_wp2_with fail
          refine (vInts_same A2 A3 m4 c2 c3 zs2 _ (by omega) (Rd.own O2.out) (Rd.own O3.out)).mono ?_
          rintro e w8 ⟨rfl, e8⟩
          go_wp2_with fail
          refine (vHas_any A2 m4 c2 _ f _ HLn.out (by omega) (Rd.own (e8.own O2.out))).mono ?_
          rintro e w9 ⟨rfl, e9⟩
          rw [HS2.out]
          have EJ := Lib.hid (E7.out.trans (e8.trans e9))
          clear O2 O3 E7 e8 e9 HLn HS2
          obtain ⟨wj, rfl⟩ : ∃ wj : World, wj = w9 := ⟨_, rfl⟩
          go_wp2_with fail
        rotate_left
        all_goals
          clear hms2
          refine (DrawMailText_any A n c l _ (HC.out.ext EJ.out)).mono ?_
          rintro e w16 ⟨r, rfl, hr, e16⟩
          have hra : -9223372036854775808 ≤ r.Arrive ∧ r.Arrive ≤ 9223372036854775807 := by obtain ⟨_, _, _, h4⟩ := hr; unfold smallI at h4; omega
          have HTI := Lib.hid (fun (wx : World) (hx : Ext w wx) => MailTextI_any r.Leave r.From r.To r.Arrive hra.1 hra.2 wx (HT.out.ext hx))
          have HTS := Lib.hid (fun (wx : World) => MailTextS_any r.Leave r.From r.To r.Arrive hra.1 hra.2 wx)
          generalize mailT r.Leave r.From r.To r.Arrive = tx at *
          generalize mlOk r.Leave r.From r.To r.Arrive = tb at *
          have E16 := Lib.hid ((EJ.out.trans e16).alloc (.cells #[.int .i64 r.Leave, .int .i64 r.From, .int .i64 r.To, .int .i64 r.Arrive] 36))
          have BX := Lib.hid (own_block w16 36 r.cs)
          clear EJ e16 hr hra
          go_wp2_with fail
          refine (HTI.out _ E16.out).mono ?_
          rintro e w17 ⟨rfl, e17⟩
          have x0 : w17.cell? ⟨w16.heap.size, 0, none⟩ = some (.int .i64 r.Leave) := own_at (e17.own BX.out) (j := 0) rfl
          have x1 : w17.cell? ⟨w16.heap.size, 1, none⟩ = some (.int .i64 r.From) := own_at (e17.own BX.out) (j := 1) rfl
          have x2 : w17.cell? ⟨w16.heap.size, 2, none⟩ = some (.int .i64 r.To) := own_at (e17.own BX.out) (j := 2) rfl
          have x3 : w17.cell? ⟨w16.heap.size, 3, none⟩ = some (.int .i64 r.Arrive) := own_at (e17.own BX.out) (j := 3) rfl
          have zb1 : w16.heap.size < w17.heap.size := World.block_lt_of_cell? w17 _ x0
          go_wp2_with fail
          refine (HTS.out _).mono ?_
          rintro e w18 ⟨rfl, e18⟩
          have EF := Lib.hid (E16.out.trans (e17.trans e18))
          go_wp2
          go_ret
          exact ⟨rfl, EF.out⟩
end Go.Proofs.YtmgpdenofkloeaaDoor
