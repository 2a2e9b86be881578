/- KindText: the program's entry, and the law. -/
import Derived.Test.YtphalkeokpnpfaaDoorKindText
import Derived.Test.YtphalkeokpnpfaaDoorOpenI
import Derived.Deep.RegionHeld3
namespace Go.Proofs.YtphalkeokpnpfaaDoor
open Go.RowKit
set_option linter.unusedVariables false
set_option linter.unusedSimpArgs false
attribute [local go_sem] ExtOf.cell

set_option maxRecDepth 100000 in
set_option maxHeartbeats 2000000 in
theorem KindTextI_any (A : Option Addr) (n c : Nat) (B : Option Addr) (m d : Nat) (ss : List Int) (bs : List Ban) (K : Option Addr) (l e : Nat) (ks : List Int) (w : World) (h : TabL w A n B m ss bs) (hl : ks.length = l) (hl2 : l ≤ 1048576) (hk : Rd w K l 1 (ints ks)) (ht : TabOkW w) :
    Calls Tryd.prog 9 #[.agg #[.slice A n c, .slice B m d], .slice K l e] w fun e w' => e = .returned (.tuple #[.string (ktT ss bs ks), .bool (ktP ss bs ks)]) ∧ Ext w w' := by
  have eW := (Ext.refl w).alloc (.cells #[.slice A n c, .slice B m d] 31)
  have C := Lib.hid (isKindTable_any w.heap.size A n c B m d ss bs _ (h.ext eW) (new_cell _ _ _ 0 _ rfl) (new_cell _ _ _ 1 _ rfl))
  cases h1 : TabOk ss bs
  · have v1 : ktP ss bs ks = false := by simp [ktP, h1]
    have v2 : ktT ss bs ks = ⟨#[]⟩ := by simp [ktT, v1]
    rw [v1, v2]
    go_enter Tryd.func9, Tryd.ntmps9
    go_wp2_with (go_at_call 33; refine C.out.mono ?_; rintro e we ⟨rfl, he⟩; rw [h1])
    go_ret2
    exact ⟨rfl, eW.trans he⟩
  obtain ⟨⟨t1, t2⟩, t3, t4, t5⟩ := TabOk_all h1
  have D := Lib.hid (fun (w' : World) (he : Ext w w') (p0 : w'.cell? ⟨w.heap.size, 0, none⟩ = some (.slice A n c)) => isKind_any w.heap.size A n c B m d ss bs K l e ks w' (h.ext he) p0 t4 hl hl2 (hk.ext he))
  have hn := h.sl
  cases h2 : KindOk ss ks
  · have v1 : ktP ss bs ks = false := by simp [ktP, h2]
    have v2 : ktT ss bs ks = ⟨#[]⟩ := by simp [ktT, v1]
    rw [v1, v2]
    clear t4 t5 hk
    go_enter Tryd.func9, Tryd.ntmps9
    go_wp2_with (first | (go_at_call 33; refine C.out.mono ?_; rintro e we ⟨rfl, he⟩; rw [h1]; have p0 := he.cell1 (new_cell w #[.slice A n c, .slice B m d] 31 0 _ rfl); have p1 := he.cell1 (new_cell w #[.slice A n c, .slice B m d] 31 1 _ rfl)) | (go_at_call 34; refine (D.out _ (eW.trans he) p0).mono ?_; rintro e wf ⟨rfl, hf⟩; rw [h2]))
    go_ret2
    exact ⟨rfl, eW.trans (he.trans hf)⟩
  · have hln : l = n := by
      have : ks.length = ss.length := by
        simp only [KindOk, Bool.and_eq_true, decide_eq_true_eq] at h2; exact h2.1
      omega
    subst hln
    have hl1 : 1 ≤ l := by omega
    have hl5 : l ≤ 5 := by omega
    have hsz : (joinB ks).size ≤ 10 := Nat.le_trans (joinB_size ks (KT_small h2 t4)) (by omega)
    have J := Lib.hid (fun (w' : World) (he : Ext w w') => joinInts_any K l e ks w' hl hl1 (by omega) (KT_small h2 t4) (hk.ext he) (ht.ext he))
    have F := Lib.hid (fun (w' : World) (he : Ext w w') (p1 : w'.cell? ⟨w.heap.size, 1, none⟩ = some (.slice B m d)) => compatible_any w.heap.size A l c B m d ss bs K e ks w' (h.ext he) p1 t5 hl (hk.ext he))
    have v1 : ktP ss bs ks = true := by simp [ktP, h1, h2]
    have v2 : ktT ss bs ks = kindT ss bs ks := by simp [ktT, v1]
    rw [v1, v2]
    clear t1 t2 t4 t5 hk ht
    cases hfr : freeOf bs ks
    all_goals
      go_enter Tryd.func9, Tryd.ntmps9
      go_wp2_with (first | (go_at_call 33; refine C.out.mono ?_; rintro e we ⟨rfl, he⟩; rw [h1]; have p0 := he.cell1 (new_cell w #[.slice A l c, .slice B m d] 31 0 _ rfl); have p1 := he.cell1 (new_cell w #[.slice A l c, .slice B m d] 31 1 _ rfl)) | (go_at_call 34; refine (D.out _ (eW.trans he) p0).mono ?_; rintro e wf ⟨rfl, hf⟩; rw [h2]; have q1 := hf.cell1 p1) | (go_at_call 35; refine (J.out _ (eW.trans (he.trans hf))).mono ?_; rintro e wj ⟨rfl, hj⟩; have r1 := hj.cell1 q1) | (go_at_call 36; refine (F.out _ (eW.trans (he.trans (hf.trans hj))) r1).mono ?_; rintro e wg ⟨rfl, hg⟩; rw [hfr]))
      go_ret2
      exact ⟨by rw [kindT, hfr]; rfl, eW.trans (he.trans (hf.trans (hj.trans hg)))⟩
set_option maxRecDepth 100000 in
set_option maxHeartbeats 2000000 in
theorem FnExactKindText_any (A : Option Addr) (n c : Nat) (B : Option Addr) (m d : Nat) (ss : List Int) (bs : List Ban) (K : Option Addr) (l e : Nat) (ks : List Int) (w : World) (hl : ks.length = l) (hk : Rd w K l 1 (ints ks)) (hlm : l ≤ maxLen) (hn : n ≤ maxLen) (hm : m ≤ maxLen) (hs : ss.length = n) (hb : bs.length = m)
    (hsw : ∀ x ∈ ss, (Lit.int .i64 x).wf = true) (hw : ∀ x ∈ bs, x.Wf) (hsr : Rd w A n 1 (ints ss)) (hr : Rd w B m 4 (bs.flatMap Ban.cs)) (ht : TabOkW w) :
    Calls Tryd.prog 3 #[.agg #[.slice A n c, .slice B m d], .slice K l e] w fun e w' => e = .returned (.bool true) ∧ Ext w w' := by
  have eW := (Ext.refl w).alloc (.cells #[.slice A n c, .slice B m d] 25)
  have P0 := Lib.hid (show (w.alloc (.cells #[.slice A n c, .slice B m d] 25)).cell? ⟨w.heap.size, 0, none⟩ = some (.slice A n c) from new_cell _ _ _ 0 _ rfl)
  have P1 := Lib.hid (show (w.alloc (.cells #[.slice A n c, .slice B m d] 25)).cell? ⟨w.heap.size, 1, none⟩ = some (.slice B m d) from new_cell _ _ _ 1 _ rfl)
  have zb : w.heap.size < (w.alloc (.cells #[.slice A n c, .slice B m d] 25)).heap.size := by simp
  have HSL := Lib.hid hs
  have HBL := Lib.hid hb
  have HSW := Lib.hid hsw
  have HW := Lib.hid hw
  have R1 := Lib.hid (hsr.ext eW)
  have R2 := Lib.hid (hr.ext eW)
  have RK := Lib.hid (hk.ext eW)
  have TW := Lib.hid (ht.ext eW)
  have HL := Lib.hid hl
  clear hs hb hsw hw hsr hr hk hl ht
  unfold maxLen at hlm
  by_cases hl2 : l ≤ 1048576
  rotate_left
  · have y1 : decide ((1048576 : Int) < l) = true := by simp; omega
    have y2 : decide (1048576 < l) = true := by simp; omega
    go_enter Tryd.func3, Tryd.ntmps3
    go_wp2_with fail
    go_ret
    exact ⟨rfl, eW⟩
  have y1 : decide ((1048576 : Int) < l) = false := by simp; omega
  have y2 : decide (1048576 < l) = false := by simp; omega
  go_enter Tryd.func3, Tryd.ntmps3
  go_wp2_with fail
  generalize w.alloc (.cells #[.slice A n c, .slice B m d] 25) = wb at *
  refine (szKindTable_any A n c B m d ss bs _ _ (by omega) (by omega) hn hm HBL.out HW.out R2.out).mono ?_
  rintro e w1 ⟨r, rfl, r1, r2, r3, e1⟩
  have p0 := e1.cell1 P0.out
  have p1 := e1.cell1 P1.out
  by_cases hr0 : r < 0
  · go_wp2
    go_ret
    exact ⟨rfl, eW.trans e1⟩
  obtain ⟨hn1, hm1⟩ := r3 (by omega)
  have T1 := Lib.hid (show TabL w1 A n B m ss bs from ⟨HSL.out, by omega, HSW.out, R1.out.ext e1, ⟨HBL.out, by omega, HW.out, R2.out.ext e1⟩⟩)
  have d0 : decide (r < 0) = false := by simpa using hr0
  have S2 := Lib.hid (fun (X Y K : Option Addr) (w' : World) (t : TabL w' X n Y m ss bs) (k : Rd w' K l 1 (ints ks)) => KindTextS_any X n n Y m m ss bs K l l ks w' t HL.out hl2 k)
  have I4 := Lib.hid (fun (X Y K : Option Addr) (w' : World) (t : TabL w' X n Y m ss bs) (k : Rd w' K l 1 (ints ks)) (tw : TabOkW w') => KindTextI_any X n n Y m m ss bs K l l ks w' t HL.out hl2 k tw)
  generalize ktT ss bs ks = res1 at S2 I4
  generalize ktP ss bs ks = res2 at S2 I4
  go_wp2_with fail
  refine (toKindTable_any A n c B m d ss bs _ T1.out).mono ?_
  rintro e w2 ⟨g1, g2, hg1, hg12, rfl, o1, o2, e2⟩
  have T2 := Lib.hid (NewTab.tab (e := .returned (.bool true)) (w' := w2) T1.out o1 o2)
  clear o1 o2
  go_wp2_with fail
  refine (toIntS_any _ _ _ ks _ hl2 (RK.out.ext (e1.trans e2))).mono ?_
  rintro e w2k ⟨rfl, ok, e2k⟩
  go_wp2_with fail
  refine (S2.out _ _ _ _ (T2.out.ext e2k) (Rd.own ok)).mono ?_
  rintro e w3 ⟨rfl, e3⟩
  have E3 := e2.trans (e2k.trans e3)
  have q0 := E3.cell1 p0
  have q1 := E3.cell1 p1
  clear p0 p1 S2 ok
  go_wp2_with fail
  refine (toKindTable_any A n c B m d ss bs _ (T1.out.ext E3)).mono ?_
  rintro e w4 ⟨g3, g4, hg3, hg34, rfl, o3, o4, e4⟩
  have T4 := Lib.hid (NewTab.tab (e := .returned (.bool true)) (w' := w4) T1.out o3 o4)
  clear o3 o4
  have EW := (eW.trans e1).trans E3
  have HE3 := Lib.hid E3
  go_wp2_with fail
  refine (toIntS_any _ _ _ ks _ hl2 (RK.out.ext ((e1.trans E3).trans (e4.trans ((Ext.refl _).alloc _))))).mono ?_
  rintro e w4k ⟨rfl, ok4, e4k⟩
  simp only [World.size_alloc] at ok4
  have xx0 : w4k.cell? ⟨w4.heap.size, 0, none⟩ = some (.slice (some ⟨g3, 0, none⟩) n n) := e4k.cell1 (new_cell _ _ _ 0 _ rfl)
  have xx1 : w4k.cell? ⟨w4.heap.size, 1, none⟩ = some (.slice (some ⟨g4, 0, none⟩) m m) := e4k.cell1 (new_cell _ _ _ 1 _ rfl)
  go_wp2_with fail
  refine (I4.out _ _ _ _ (T4.out.ext (((Ext.refl _).alloc _).trans e4k)) (Rd.own ok4) (TW.out.ext ((e1.trans E3).trans (e4.trans (((Ext.refl _).alloc _).trans e4k))))).mono ?_
  rintro e w5 ⟨rfl, e5i⟩
  have RK5 := Lib.hid (Rd.own (e5i.own ok4))
  have RK6 := Lib.hid (RK.out.ext ((e1.trans E3).trans (e4.trans (((Ext.refl _).alloc _).trans (e4k.trans e5i)))))
  have e5 := e4k.trans e5i
  have x0 : w5.cell? ⟨w4.heap.size, 0, none⟩ = some (.slice (some ⟨g3, 0, none⟩) n n) := e5.cell1 (new_cell _ _ _ 0 _ rfl)
  have x1 : w5.cell? ⟨w4.heap.size, 1, none⟩ = some (.slice (some ⟨g4, 0, none⟩) m m) := e5.cell1 (new_cell _ _ _ 1 _ rfl)
  have E45 : Ext w4 w5 := ((Ext.refl w4).alloc _).trans e5
  have E5 : Ext w3 w5 := e4.trans E45
  have s0 := E5.cell1 q0
  have s1 := E5.cell1 q1
  have T5 := Lib.hid (T4.out.ext E45)
  have T6 := Lib.hid ((T1.out.ext E3).ext E5)
  have z0 : w.heap.size < w5.heap.size := World.block_lt_of_cell? w5 _ s0
  have z1 : w4.heap.size < w5.heap.size := World.block_lt_of_cell? w5 _ x0
  have EF := Lib.hid (EW.trans E5)
  clear xx0 xx1 ok4 I4 e2k e4k e5i RK q0 q1 e1 e2 e3 e4 e5 E3 EW E45 E5 T2 T4 T1 HE3 eW P0 P1 R1 R2 zb hg1 hg12 hg3 hg34
  go_wp2_with fail
  go_region_held3 (fun w' => w'.cell? ⟨w.heap.size, 0, none⟩ = some (.slice A n c) ∧ w'.cell? ⟨w.heap.size, 1, none⟩ = some (.slice B m d) ∧ w'.cell? ⟨w4.heap.size, 0, none⟩ = some (.slice (some ⟨g3, 0, none⟩) n n) ∧ w'.cell? ⟨w4.heap.size, 1, none⟩ = some (.slice (some ⟨g4, 0, none⟩) m m)) (((try dsimp only); go_split_ands; (repeat' apply And.intro) <;> first | assumption | exact Ext.cell1 he1 (by assumption) | (simp [*]; done) | (simp [*, go_sem, World.cell?_alloc_past]; done))) (first | (go_at_call 7; refine (toKindTable_any A n c B m d ss bs _ (T6.out.ext (by repeat (first | exact Ext.refl _ | assumption | refine Ext.trans ?_ (by assumption) | refine Ext.drew ?_ | refine Ext.drewN ?_ _ | refine Ext.alloc ?_ _)))).mono ?_; rintro e wt ⟨g5, g6, hg5, hg56, rfl, o5, o6, he1⟩; have T7 := Lib.hid (NewTab.tab (e := .returned (.bool true)) (w' := wt) T6.out o5 o6)) | (go_at_call 10; refine (eqKindTable_same _ _ n n n _ _ m m m ss bs _ (T5.out.ext (by repeat (first | exact Ext.refl _ | assumption | refine Ext.trans ?_ (by assumption) | refine Ext.drew ?_ | refine Ext.drewN ?_ _ | refine Ext.alloc ?_ _))) (by first | exact T7.out | exact T7.out.ext (by repeat (first | exact Ext.refl _ | assumption | refine Ext.trans ?_ (by assumption) | refine Ext.drew ?_ | refine Ext.drewN ?_ _ | refine Ext.alloc ?_ _)))).mono ?_; rintro e w6 ⟨rfl, he1⟩))
  all_goals
    have e56 : Ext w5 w6 := (by repeat (first | exact Ext.refl _ | assumption | refine Ext.trans ?_ (by assumption) | refine Ext.drew ?_ | refine Ext.drewN ?_ _ | refine Ext.alloc ?_ _))
    go_wp2_with fail
    refine (toIntS_any _ _ _ ks _ hl2 (RK6.out.ext e56)).mono ?_
    rintro e w7 ⟨rfl, ok7, e7⟩
    go_wp2_with fail
    refine (eqIntS_same _ _ _ _ _ ks _ hl2 (RK5.out.ext (e56.trans e7)) (Rd.own ok7)).mono ?_
    rintro e w8 ⟨rfl, e8⟩
    go_wp2_with fail
    go_ret
    exact ⟨rfl, EF.out.trans (e56.trans (e7.trans e8))⟩
end Go.Proofs.YtphalkeokpnpfaaDoor
