/- The law of NeedlessBans (made by wip/kindlaws2.py). -/
import Derived.Test.YtphalkeokpnpfaaNeedS
import Derived.Test.YtphalkeokpnpfaaKMark
import Derived.Deep.RegionHeld3
namespace Go.Proofs.Ytphalkeokpnpfaa
open Go.RowKit
set_option linter.unusedVariables false
set_option linter.unusedSimpArgs false
attribute [local go_sem] ExtOf.cell

set_option maxRecDepth 100000 in
set_option maxHeartbeats 2000000 in
theorem FnExactNeedlessBans_any (A : Option Addr) (n c : Nat) (B : Option Addr) (m d : Nat) (ss : List Int) (bs : List Ban) (w : World) (hn : n ≤ maxLen) (hm : m ≤ maxLen) (hs : ss.length = n) (hb : bs.length = m)
    (hsw : ∀ x ∈ ss, (Lit.int .i64 x).wf = true) (hw : ∀ x ∈ bs, x.Wf) (hsr : Rd w A n 1 (ints ss)) (hr : Rd w B m 4 (bs.flatMap Ban.cs)) :
    Calls Try.prog 8 #[.agg #[.slice A n c, .slice B m d]] w fun e w' => e = .returned (.bool true) ∧ Ext w w' := by
  have eW := (Ext.refl w).alloc (.cells #[.slice A n c, .slice B m d] 25)
  have P0 := Lib.hid (show (w.alloc (.cells #[.slice A n c, .slice B m d] 25)).cell? ⟨w.heap.size, 0, none⟩ = some (.slice A n c) from new_cell _ _ _ 0 _ rfl)
  have P1 := Lib.hid (show (w.alloc (.cells #[.slice A n c, .slice B m d] 25)).cell? ⟨w.heap.size, 1, none⟩ = some (.slice B m d) from new_cell _ _ _ 1 _ rfl)
  have zb : w.heap.size < (w.alloc (.cells #[.slice A n c, .slice B m d] 25)).heap.size := by simp
  have HSL := Lib.hid hs
  have HBL := Lib.hid hb
  have HSW := Lib.hid hsw
  have HW := Lib.hid hw
  have R1 := Lib.hid (hsr.ext eW)
  have R2 := Lib.hid (hr.ext eW)
  clear hs hb hsw hw hsr hr
  go_enter Try.func8, Try.ntmps8
  go_wp2_with fail
  generalize w.alloc (.cells #[.slice A n c, .slice B m d] 25) = wb at *
  refine (szKindTable_any A n c B m d ss bs _ _ (by omega) (by omega) hn hm HBL.out HW.out R2.out).mono ?_
  rintro e w1 ⟨r, rfl, r1, r2, r3, e1⟩
  have p0 := e1.cell1 P0.out
  have p1 := e1.cell1 P1.out
  by_cases hr0 : r < 0
  · go_wp2
    go_ret
    exact ⟨rfl, eW.trans e1⟩
  obtain ⟨hn1, hm1⟩ := r3 (by omega)
  have T1 := Lib.hid (show TabL w1 A n B m ss bs from ⟨HSL.out, by omega, HSW.out, R1.out.ext e1, ⟨HBL.out, by omega, HW.out, R2.out.ext e1⟩⟩)
  have d0 : decide (r < 0) = false := by simpa using hr0
  have EW := Lib.hid (eW.trans e1)
  have zb1 : w.heap.size < w1.heap.size := World.block_lt_of_cell? w1 _ p0
  have S2 := Lib.hid (fun (X Y : Option Addr) (w' : World) (t : TabL w' X n Y m ss bs) => (show Calls _ _ _ _ (RowPost 3 1 (ints (needR ss bs)) (TabOk ss bs) w') from NeedlessBansS_any X n n Y m m ss bs w' t (Nat.le_refl m)))
  have I4 := Lib.hid (fun (X Y : Option Addr) (w' : World) (t : TabL w' X n Y m ss bs) => (show Calls _ _ _ _ (RowPost 3 1 (ints (needR ss bs)) (TabOk ss bs) w') from NeedlessBansI_any X n n Y m m ss bs w' t))
  have hCS : ((needR ss bs)).length ≤ 10000 := needR_len ss bs
  generalize (needR ss bs) = CS at S2 I4 hCS
  generalize (TabOk ss bs) = ok at S2 I4
  clear R1 R2 zb P0 P1 hr0 r3 e1 eW
  go_wp2_with fail
  refine (toKindTable_any A n c B m d ss bs _ T1.out).mono ?_
  rintro e w2 ⟨g1, g2, hg1, hg12, rfl, o1, o2, e2⟩
  have T2 := Lib.hid (NewTab.tab (e := .returned (.bool true)) (w' := w2) T1.out o1 o2)
  clear o1 o2
  go_wp2_with fail
  refine (S2.out _ _ _ T2.out).mono ?_
  rintro e w3 ⟨A3, m3, c3, rfl, o3, e3⟩
  have E3 := e2.trans e3
  have hm3 : m3 = CS.length := by have := o3.1; rw [ints_length] at this; omega
  subst hm3
  have O3 := Lib.hid o3
  have B3 := Lib.hid (fun k hk => (O3.out.lt k hk).2)
  have q0 := E3.cell1 p0
  have q1 := E3.cell1 p1
  have z3 : w1.heap.size ≤ w3.heap.size := E3.size
  have EE3 := Lib.hid E3
  clear o3 p0 p1 S2 E3 T2 hg1 hg12 e2 e3
  go_wp2_with fail
  refine (toKindTable_any A n c B m d ss bs _ (T1.out.ext EE3.out)).mono ?_
  rintro e w4 ⟨g3, g4, hg3, hg34, rfl, o5a, o5b, e4⟩
  have T4 := Lib.hid (NewTab.tab (e := .returned (.bool true)) (w' := w4) T1.out o5a o5b)
  have OA := Lib.hid (own_low' o5a (Nat.zero_le _))
  have OB := Lib.hid (own_low' o5b (Nat.zero_le _))
  have zg4 : g4 < w4.heap.size := (o5b.lt _ rfl).2
  have zg3 : g3 < w4.heap.size := (o5a.lt _ rfl).2
  have z4 : w3.heap.size ≤ w4.heap.size := e4.size
  clear o5a o5b
  go_wp2_with fail
  refine (I4.out _ _ _ (T4.out.ext ((Ext.refl _).alloc _))).mono ?_
  rintro e w5 ⟨A5, m5, c5, rfl, o5, e5⟩
  simp only [World.size_alloc] at o5
  have hm5 : m5 = CS.length := by have := o5.1; rw [ints_length] at this; omega
  subst hm5
  have B5 := Lib.hid (show ∀ k, (Value.slice A5 CS.length c5).ownBlock = some k → (w4.heap.size + 1) ≤ k from fun k hk => (o5.lt k hk).1)
  have O5 := Lib.hid o5
  have E45 : Ext w4 w5 := ((Ext.refl w4).alloc _).trans e5
  have OA5 := Lib.hid (E45.own OA.out)
  have OB5 := Lib.hid (E45.own OB.out)
  have K := Lib.hid (show KSt w1 w.heap.size w4.heap.size (.slice A n c) (.slice B m d) (.slice (some ⟨g3, 0, none⟩) n n) (.slice (some ⟨g4, 0, none⟩) m m) 3 1 (.slice A3 CS.length c3) (.slice A5 CS.length c5) CS.length (ints CS) (ints CS) w5 from
    ⟨(e4.trans E45).cell1 q0, (e4.trans E45).cell1 q1, e5.cell1 (new_cell _ _ _ 0 _ rfl), e5.cell1 (new_cell _ _ _ 1 _ rfl), own_low' ((e4.trans E45).own O3.out) (Nat.zero_le _), own_low' O5.out (Nat.zero_le _), EE3.out.trans (e4.trans E45)⟩)
  have T5 := Lib.hid (T4.out.ext E45)
  clear o5 O5 O3 OA OB e4 e5 E45 EE3 T4 q0 q1
  go_wp2_with fail
  refine (eqIntS_same _ _ _ _ _ CS _ (by omega) (Rd.own K.out.o5) (Rd.own K.out.o3)).mono ?_
  rintro e w6 ⟨rfl, e6⟩
  have K6 := Lib.hid (K.out.step e6)
  have T6 := Lib.hid (T5.out.ext e6)
  have OA6 := Lib.hid (e6.own OA5.out)
  have OB6 := Lib.hid (e6.own OB5.out)
  have s0 := K6.out.c0
  have s1 := K6.out.c1
  have x0 := K6.out.x0
  have x1 := K6.out.x1
  have y0 : w.heap.size < w6.heap.size := World.block_lt_of_cell? w6 _ s0
  have y1 : w4.heap.size < w6.heap.size := World.block_lt_of_cell? w6 _ x0
  have TX := Lib.hid (T1.out.ext K6.out.ext)
  clear K T5 OA5 OB5
  clear e6
  go_wp2_with fail
  go_region_held3 (fun w' => w'.cell? ⟨w.heap.size, 0, none⟩ = some (.slice A n c) ∧ w'.cell? ⟨w.heap.size, 1, none⟩ = some (.slice B m d) ∧ w'.cell? ⟨w4.heap.size, 0, none⟩ = some (.slice (some ⟨g3, 0, none⟩) n n) ∧ w'.cell? ⟨w4.heap.size, 1, none⟩ = some (.slice (some ⟨g4, 0, none⟩) m m)) (((try dsimp only); go_split_ands; (repeat' apply And.intro) <;> first | assumption | exact Ext.cell1 he1 (by assumption) | (simp [*]; done) | (simp [*, go_sem, World.cell?_alloc_past]; done))) (first | (go_at_call 15; refine (toKindTable_any A n c B m d ss bs _ (TX.out.ext (by repeat (first | exact Ext.refl _ | assumption | refine Ext.trans ?_ (by assumption) | refine Ext.drew ?_ | refine Ext.drewN ?_ _ | refine Ext.alloc ?_ _)))).mono ?_; rintro e wt ⟨g5, g6, hg5, hg56, rfl, o5, o6, he1⟩; have T7 := Lib.hid (NewTab.tab (e := .returned (.bool true)) (w' := wt) TX.out o5 o6)) | (go_at_call 17; refine (eqKindTable_same _ _ n n n _ _ m m m ss bs _ (T6.out.ext (by repeat (first | exact Ext.refl _ | assumption | refine Ext.trans ?_ (by assumption) | refine Ext.drew ?_ | refine Ext.drewN ?_ _ | refine Ext.alloc ?_ _))) (by first | exact T7.out | exact T7.out.ext (by repeat (first | exact Ext.refl _ | assumption | refine Ext.trans ?_ (by assumption) | refine Ext.drew ?_ | refine Ext.drewN ?_ _ | refine Ext.alloc ?_ _)))).mono ?_; rintro e w7 ⟨rfl, he1⟩))
  all_goals
    have e67 := Lib.hid (show Ext w6 w7 from (by repeat (first | exact Ext.refl _ | assumption | refine Ext.trans ?_ (by assumption) | refine Ext.drew ?_ | refine Ext.drewN ?_ _ | refine Ext.alloc ?_ _)))
    have K7 := Lib.hid (K6.out.step e67.out)
    have OA7 := Lib.hid (e67.out.own OA6.out)
    have OB7 := Lib.hid (e67.out.own OB6.out)
    clear K6 T6 TX OA6 OB6 T7 o5 o6 s0 s1 x0 x1 y0 y1
    have x0 := K7.out.x0
    have x1 := K7.out.x1
    have y1 : w4.heap.size < w7.heap.size := World.block_lt_of_cell? w7 _ x0
    go_wp2_with fail
    refine (markKindTable_any g3 g4 n m n m ss _ 1 _ (by omega) (by omega) (by omega) OA7.out OB7.out).mono ?_
    rintro e w9 ⟨rfl, g9⟩
    have K9 := Lib.hid (K7.out.marked g9 ⟨by omega, by omega⟩ ⟨by omega, by omega⟩ (fun k hk => by have := B3.out k hk; exact ⟨by omega, by omega⟩) (fun k hk => by have := B5.out k hk; exact ⟨by omega, by omega⟩) ⟨by omega, by omega⟩)
    clear K7 OA7 OB7 g9 x0 x1 y1
    go_wp2_with fail
    refine (eqIntS_same _ _ _ _ _ CS _ (by omega) (Rd.own K9.out.o5) (Rd.own K9.out.o3)).mono ?_
    rintro e w10 ⟨rfl, e10⟩
    have K10 := Lib.hid (K9.out.step e10)
    clear K9 e10
    go_wp2_with fail
    refine (markIntS_any _ _ _ _ CS 1 _ (by omega) (by omega) K10.out.o5).mono ?_
    rintro e w11 ⟨rfl, o11, g11⟩
    have K11 := Lib.hid (K10.out.result (M := (w4.heap.size + 1)) g11 o11 (by omega) (by omega) (fun k hk => by have := B3.out k hk; omega) (fun k hk => B5.out k hk) (by omega))
    clear K10 o11 g11
    go_wp2_with fail
    refine (heldIntS_any _ _ _ 1 _ (by omega) (by omega) (Rd.own K11.out.o5)).mono ?_
    rintro e w12 ⟨rfl, e12⟩
    have K12 := Lib.hid (K11.out.step e12)
    clear K11 e12
    have s0 := K12.out.c0
    have s1 := K12.out.c1
    have y0 : w.heap.size < w12.heap.size := World.block_lt_of_cell? w12 _ s0
    go_wp2_with fail
    refine (toKindTable_any A n c B m d ss bs _ (T1.out.ext K12.out.ext)).mono ?_
    rintro e w13 ⟨g7, g8, hg7, hg78, rfl, o7, o8, e13⟩
    have T13 := Lib.hid (NewTab.tab (e := .returned (.bool true)) (w' := w13) T1.out o7 o8)
    have K13 := Lib.hid (K12.out.step e13)
    clear o7 o8 K12 e13 s0 s1
    go_wp2_with fail
    refine (I4.out _ _ _ T13.out).mono ?_
    rintro e w14 ⟨A14, m14, c14, rfl, o14, e14⟩
    have K14 := Lib.hid (K13.out.step e14)
    have hm14 : m14 = CS.length := by have := o14.1; rw [ints_length] at this; omega
    subst hm14
    have O14 := Lib.hid o14
    clear o14 e14 T13
    go_wp2_with fail
    refine (eqIntS_same _ _ _ _ _ CS _ (by omega) (Rd.own O14.out) (Rd.own K14.out.o3)).mono ?_
    rintro e w15 ⟨rfl, e15⟩
    have K15 := Lib.hid (K14.out.step e15)
    clear K14 e15 O14
    go_wp2_with fail
    refine (heldIntS_any _ _ _ 1 _ (by omega) (by omega) (Rd.own K15.out.o5)).mono ?_
    rintro e w16 ⟨rfl, e16⟩
    have K16 := Lib.hid (K15.out.step e16)
    go_wp2
    go_ret
    exact ⟨rfl, EW.out.trans K16.out.ext⟩
end Go.Proofs.Ytphalkeokpnpfaa
