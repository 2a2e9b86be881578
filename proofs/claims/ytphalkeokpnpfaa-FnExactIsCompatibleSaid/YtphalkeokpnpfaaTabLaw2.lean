/- The law of IsCompatible. -/
import Derived.Test.YtphalkeokpnpfaaCompat
import Derived.Test.YtphalkeokpnpfaaOpenI
import Derived.Deep.RegionHeld3
namespace Go.Proofs.Ytphalkeokpnpfaa
open Go.RowKit
set_option linter.unusedVariables false
set_option linter.unusedSimpArgs false
attribute [local go_sem] ExtOf.cell

set_option maxRecDepth 100000 in
set_option maxHeartbeats 2000000 in
theorem FnExactIsCompatible_any (A : Option Addr) (n c : Nat) (B : Option Addr) (m d : Nat) (ss : List Int) (bs : List Ban) (K : Option Addr) (l e : Nat) (ks : List Int) (w : World) (hl : ks.length = l) (hk : Rd w K l 1 (ints ks)) (hlm : l ≤ maxLen) (hn : n ≤ maxLen) (hm : m ≤ maxLen) (hs : ss.length = n) (hb : bs.length = m)
    (hsw : ∀ x ∈ ss, (Lit.int .i64 x).wf = true) (hw : ∀ x ∈ bs, x.Wf) (hsr : Rd w A n 1 (ints ss)) (hr : Rd w B m 4 (bs.flatMap Ban.cs)) :
    Calls Try.prog 4 #[.agg #[.slice A n c, .slice B m d], .slice K l e] w fun e w' => e = .returned (.bool true) ∧ Ext w w' := by
  have eW := (Ext.refl w).alloc (.cells #[.slice A n c, .slice B m d] 25)
  have P0 := Lib.hid (show (w.alloc (.cells #[.slice A n c, .slice B m d] 25)).cell? ⟨w.heap.size, 0, none⟩ = some (.slice A n c) from new_cell _ _ _ 0 _ rfl)
  have P1 := Lib.hid (show (w.alloc (.cells #[.slice A n c, .slice B m d] 25)).cell? ⟨w.heap.size, 1, none⟩ = some (.slice B m d) from new_cell _ _ _ 1 _ rfl)
  have zb : w.heap.size < (w.alloc (.cells #[.slice A n c, .slice B m d] 25)).heap.size := by simp
  have HSL := Lib.hid hs
  have HBL := Lib.hid hb
  have HSW := Lib.hid hsw
  have HW := Lib.hid hw
  have R1 := Lib.hid (hsr.ext eW)
  have R2 := Lib.hid (hr.ext eW)
  have RK := Lib.hid (hk.ext eW)
  have HL := Lib.hid hl
  clear hs hb hsw hw hsr hr hk hl
  unfold maxLen at hlm
  by_cases hl2 : l ≤ 1048576
  rotate_left
  · have y1 : decide ((1048576 : Int) < l) = true := by simp; omega
    have y2 : decide (1048576 < l) = true := by simp; omega
    go_enter Try.func4, Try.ntmps4
    go_wp2_with fail
    go_ret
    exact ⟨rfl, eW⟩
  have y1 : decide ((1048576 : Int) < l) = false := by simp; omega
  have y2 : decide (1048576 < l) = false := by simp; omega
  go_enter Try.func4, Try.ntmps4
  go_wp2_with fail
  generalize w.alloc (.cells #[.slice A n c, .slice B m d] 25) = wb at *
  refine (szKindTable_any A n c B m d ss bs _ _ (by omega) (by omega) hn hm HBL.out HW.out R2.out).mono ?_
  rintro e w1 ⟨r, rfl, r1, r2, r3, e1⟩
  have p0 := e1.cell1 P0.out
  have p1 := e1.cell1 P1.out
  by_cases hr0 : r < 0
  · go_wp2
    go_ret
    exact ⟨rfl, eW.trans e1⟩
  obtain ⟨hn1, hm1⟩ := r3 (by omega)
  have T1 := Lib.hid (show TabL w1 A n B m ss bs from ⟨HSL.out, by omega, HSW.out, R1.out.ext e1, ⟨HBL.out, by omega, HW.out, R2.out.ext e1⟩⟩)
  have d0 : decide (r < 0) = false := by simpa using hr0
  have S2 := Lib.hid (fun (X Y K : Option Addr) (w' : World) (t : TabL w' X n Y m ss bs) (k : Rd w' K l 1 (ints ks)) => IsCompatibleS_any X n n Y m m ss bs K l l ks w' t HL.out hl2 k)
  have I4 := Lib.hid (fun (X Y K : Option Addr) (w' : World) (t : TabL w' X n Y m ss bs) (k : Rd w' K l 1 (ints ks)) => IsCompatibleI_any X n n Y m m ss bs K l l ks w' t HL.out hl2 k)
  generalize compQ ss bs ks = res1 at S2 I4
  generalize compP ss bs ks = res2 at S2 I4
  go_wp2_with fail
  refine (toKindTable_any A n c B m d ss bs _ T1.out).mono ?_
  rintro e w2 ⟨g1, g2, hg1, hg12, rfl, o1, o2, e2⟩
  have T2 := Lib.hid (NewTab.tab (e := .returned (.bool true)) (w' := w2) T1.out o1 o2)
  clear o1 o2
  go_wp2_with fail
  refine (toIntS_any _ _ _ ks _ hl2 (RK.out.ext (e1.trans e2))).mono ?_
  rintro e w2k ⟨rfl, ok, e2k⟩
  go_wp2_with fail
  refine (S2.out _ _ _ _ (T2.out.ext e2k) (Rd.own ok)).mono ?_
  rintro e w3 ⟨rfl, e3⟩
  have E3 := e2.trans (e2k.trans e3)
  have q0 := E3.cell1 p0
  have q1 := E3.cell1 p1
  clear p0 p1 S2 ok
  go_wp2_with fail
  refine (toKindTable_any A n c B m d ss bs _ (T1.out.ext E3)).mono ?_
  rintro e w4 ⟨g3, g4, hg3, hg34, rfl, o3, o4, e4⟩
  have T4 := Lib.hid (NewTab.tab (e := .returned (.bool true)) (w' := w4) T1.out o3 o4)
  clear o3 o4
  have EW := (eW.trans e1).trans E3
  have HE3 := Lib.hid E3
  go_wp2_with fail
  refine (toIntS_any _ _ _ ks _ hl2 (RK.out.ext ((e1.trans E3).trans (e4.trans ((Ext.refl _).alloc _))))).mono ?_
  rintro e w4k ⟨rfl, ok4, e4k⟩
  simp only [World.size_alloc] at ok4
  have xx0 : w4k.cell? ⟨w4.heap.size, 0, none⟩ = some (.slice (some ⟨g3, 0, none⟩) n n) := e4k.cell1 (new_cell _ _ _ 0 _ rfl)
  have xx1 : w4k.cell? ⟨w4.heap.size, 1, none⟩ = some (.slice (some ⟨g4, 0, none⟩) m m) := e4k.cell1 (new_cell _ _ _ 1 _ rfl)
  go_wp2_with fail
  refine (I4.out _ _ _ _ (T4.out.ext (((Ext.refl _).alloc _).trans e4k)) (Rd.own ok4)).mono ?_
  rintro e w5 ⟨rfl, e5i⟩
  have RK5 := Lib.hid (Rd.own (e5i.own ok4))
  have RK6 := Lib.hid (RK.out.ext ((e1.trans E3).trans (e4.trans (((Ext.refl _).alloc _).trans (e4k.trans e5i)))))
  have e5 := e4k.trans e5i
  have x0 : w5.cell? ⟨w4.heap.size, 0, none⟩ = some (.slice (some ⟨g3, 0, none⟩) n n) := e5.cell1 (new_cell _ _ _ 0 _ rfl)
  have x1 : w5.cell? ⟨w4.heap.size, 1, none⟩ = some (.slice (some ⟨g4, 0, none⟩) m m) := e5.cell1 (new_cell _ _ _ 1 _ rfl)
  have E45 : Ext w4 w5 := ((Ext.refl w4).alloc _).trans e5
  have E5 : Ext w3 w5 := e4.trans E45
  have s0 := E5.cell1 q0
  have s1 := E5.cell1 q1
  have T5 := Lib.hid (T4.out.ext E45)
  have T6 := Lib.hid ((T1.out.ext E3).ext E5)
  have z0 : w.heap.size < w5.heap.size := World.block_lt_of_cell? w5 _ s0
  have z1 : w4.heap.size < w5.heap.size := World.block_lt_of_cell? w5 _ x0
  have EF := Lib.hid (EW.trans E5)
  clear xx0 xx1 ok4 I4 e2k e4k e5i RK q0 q1 e1 e2 e3 e4 e5 E3 EW E45 E5 T2 T4 T1 HE3 eW P0 P1 R1 R2 zb hg1 hg12 hg3 hg34
  go_wp2_with fail
  go_region_held3 (fun w' => w'.cell? ⟨w.heap.size, 0, none⟩ = some (.slice A n c) ∧ w'.cell? ⟨w.heap.size, 1, none⟩ = some (.slice B m d) ∧ w'.cell? ⟨w4.heap.size, 0, none⟩ = some (.slice (some ⟨g3, 0, none⟩) n n) ∧ w'.cell? ⟨w4.heap.size, 1, none⟩ = some (.slice (some ⟨g4, 0, none⟩) m m)) (((try dsimp only); go_split_ands; (repeat' apply And.intro) <;> first | assumption | exact Ext.cell1 he1 (by assumption) | (simp [*]; done) | (simp [*, go_sem, World.cell?_alloc_past]; done))) (first | (go_at_call 15; refine (toKindTable_any A n c B m d ss bs _ (T6.out.ext (by repeat (first | exact Ext.refl _ | assumption | refine Ext.trans ?_ (by assumption) | refine Ext.drew ?_ | refine Ext.drewN ?_ _ | refine Ext.alloc ?_ _)))).mono ?_; rintro e wt ⟨g5, g6, hg5, hg56, rfl, o5, o6, he1⟩; have T7 := Lib.hid (NewTab.tab (e := .returned (.bool true)) (w' := wt) T6.out o5 o6)) | (go_at_call 17; refine (eqKindTable_same _ _ n n n _ _ m m m ss bs _ (T5.out.ext (by repeat (first | exact Ext.refl _ | assumption | refine Ext.trans ?_ (by assumption) | refine Ext.drew ?_ | refine Ext.drewN ?_ _ | refine Ext.alloc ?_ _))) (by first | exact T7.out | exact T7.out.ext (by repeat (first | exact Ext.refl _ | assumption | refine Ext.trans ?_ (by assumption) | refine Ext.drew ?_ | refine Ext.drewN ?_ _ | refine Ext.alloc ?_ _)))).mono ?_; rintro e w6 ⟨rfl, he1⟩))
  all_goals
    have e56 : Ext w5 w6 := (by repeat (first | exact Ext.refl _ | assumption | refine Ext.trans ?_ (by assumption) | refine Ext.drew ?_ | refine Ext.drewN ?_ _ | refine Ext.alloc ?_ _))
    go_wp2_with fail
    refine (toIntS_any _ _ _ ks _ hl2 (RK6.out.ext e56)).mono ?_
    rintro e w7 ⟨rfl, ok7, e7⟩
    go_wp2_with fail
    refine (eqIntS_same _ _ _ _ _ ks _ hl2 (RK5.out.ext (e56.trans e7)) (Rd.own ok7)).mono ?_
    rintro e w8 ⟨rfl, e8⟩
    go_wp2_with fail
    go_ret
    exact ⟨rfl, EF.out.trans (e56.trans (e7.trans e8))⟩
end Go.Proofs.Ytphalkeokpnpfaa
