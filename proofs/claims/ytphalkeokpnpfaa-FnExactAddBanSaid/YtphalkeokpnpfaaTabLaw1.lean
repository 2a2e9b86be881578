/- The law of IsKindTable. -/
import Derived.Test.YtphalkeokpnpfaaTabY
import Derived.Deep.RegionHeld3
namespace Go.Proofs.Ytphalkeokpnpfaa
open Go.RowKit
set_option linter.unusedVariables false
set_option linter.unusedSimpArgs false
attribute [local go_sem] ExtOf.cell

set_option maxHeartbeats 400000 in
theorem IsKindTableI_any (A : Option Addr) (n c : Nat) (B : Option Addr) (m d : Nat) (ss : List Int) (bs : List Ban) (w : World) (h : TabL w A n B m ss bs) :
    Calls Try.prog 16 #[.agg #[.slice A n c, .slice B m d]] w fun e w' => e = .returned (.bool (TabOk ss bs)) ∧ Ext w w' := by
  have eW := (Ext.refl w).alloc (.cells #[.slice A n c, .slice B m d] 30)
  have C := Lib.hid (isKindTable_any w.heap.size A n c B m d ss bs _ (h.ext eW) (new_cell _ _ _ 0 _ rfl) (new_cell _ _ _ 1 _ rfl))
  go_enter Try.func16, Try.ntmps16
  go_wp2_with (go_at_call 55; refine C.out.mono ?_; rintro e we ⟨rfl, he⟩)
  go_ret
  exact ⟨rfl, eW.trans he⟩
set_option maxHeartbeats 400000 in
theorem IsKindTableS_any (A : Option Addr) (n c : Nat) (B : Option Addr) (m d : Nat) (ss : List Int) (bs : List Ban) (w : World) (h : TabL w A n B m ss bs) :
    Calls Try.prog 14 #[.agg #[.slice A n c, .slice B m d]] w fun e w' => e = .returned (.bool (TabOk ss bs)) ∧ Ext w w' := by
  have eW := (Ext.refl w).alloc (.cells #[.slice A n c, .slice B m d] 30)
  have C := Lib.hid (l6Good_any A n c B m d ss bs _ (h.ext eW))
  go_enter Try.func14, Try.ntmps14
  go_wp2_with (go_at_call 53; refine C.out.mono ?_; rintro e we ⟨rfl, he⟩)
  go_ret
  exact ⟨rfl, eW.trans he⟩
set_option maxRecDepth 100000 in
set_option maxHeartbeats 2000000 in
theorem FnExactIsKindTable_any (A : Option Addr) (n c : Nat) (B : Option Addr) (m d : Nat) (ss : List Int) (bs : List Ban) (w : World) (hn : n ≤ maxLen) (hm : m ≤ maxLen) (hs : ss.length = n) (hb : bs.length = m)
    (hsw : ∀ x ∈ ss, (Lit.int .i64 x).wf = true) (hw : ∀ x ∈ bs, x.Wf) (hsr : Rd w A n 1 (ints ss)) (hr : Rd w B m 4 (bs.flatMap Ban.cs)) :
    Calls Try.prog 3 #[.agg #[.slice A n c, .slice B m d]] w fun e w' => e = .returned (.bool true) ∧ Ext w w' := by
  have eW := (Ext.refl w).alloc (.cells #[.slice A n c, .slice B m d] 25)
  have P0 := Lib.hid (show (w.alloc (.cells #[.slice A n c, .slice B m d] 25)).cell? ⟨w.heap.size, 0, none⟩ = some (.slice A n c) from new_cell _ _ _ 0 _ rfl)
  have P1 := Lib.hid (show (w.alloc (.cells #[.slice A n c, .slice B m d] 25)).cell? ⟨w.heap.size, 1, none⟩ = some (.slice B m d) from new_cell _ _ _ 1 _ rfl)
  have zb : w.heap.size < (w.alloc (.cells #[.slice A n c, .slice B m d] 25)).heap.size := by simp
  have HSL := Lib.hid hs
  have HBL := Lib.hid hb
  have HSW := Lib.hid hsw
  have HW := Lib.hid hw
  have R1 := Lib.hid (hsr.ext eW)
  have R2 := Lib.hid (hr.ext eW)
  clear hs hb hsw hw hsr hr
  go_enter Try.func3, Try.ntmps3
  go_wp2_with fail
  generalize w.alloc (.cells #[.slice A n c, .slice B m d] 25) = wb at *
  refine (szKindTable_any A n c B m d ss bs _ _ (by omega) (by omega) hn hm HBL.out HW.out R2.out).mono ?_
  rintro e w1 ⟨r, rfl, r1, r2, r3, e1⟩
  have p0 := e1.cell1 P0.out
  have p1 := e1.cell1 P1.out
  by_cases hr0 : r < 0
  · go_wp2
    go_ret
    exact ⟨rfl, eW.trans e1⟩
  obtain ⟨hn1, hm1⟩ := r3 (by omega)
  have T1 := Lib.hid (show TabL w1 A n B m ss bs from ⟨HSL.out, by omega, HSW.out, R1.out.ext e1, ⟨HBL.out, by omega, HW.out, R2.out.ext e1⟩⟩)
  have d0 : decide (r < 0) = false := by simpa using hr0
  go_wp2_with fail
  refine (toKindTable_any A n c B m d ss bs _ T1.out).mono ?_
  rintro e w2 ⟨g1, g2, hg1, hg12, rfl, o1, o2, e2⟩
  have T2 := Lib.hid (NewTab.tab (e := .returned (.bool true)) (w' := w2) T1.out o1 o2)
  clear o1 o2
  go_wp2_with fail
  refine (IsKindTableS_any _ n n _ m m ss bs _ T2.out).mono ?_
  rintro e w3 ⟨rfl, e3⟩
  have E3 := e2.trans e3
  have q0 := E3.cell1 p0
  have q1 := E3.cell1 p1
  clear p0 p1
  go_wp2_with fail
  refine (toKindTable_any A n c B m d ss bs _ (T1.out.ext E3)).mono ?_
  rintro e w4 ⟨g3, g4, hg3, hg34, rfl, o3, o4, e4⟩
  have T4 := Lib.hid (NewTab.tab (e := .returned (.bool true)) (w' := w4) T1.out o3 o4)
  clear o3 o4
  have EW := (eW.trans e1).trans E3
  have HE3 := Lib.hid E3
  go_wp2_with fail
  refine (IsKindTableI_any _ n n _ m m ss bs _ (T4.out.ext ((Ext.refl _).alloc _))).mono ?_
  rintro e w5 ⟨rfl, e5⟩
  have x0 : w5.cell? ⟨w4.heap.size, 0, none⟩ = some (.slice (some ⟨g3, 0, none⟩) n n) := e5.cell1 (new_cell _ _ _ 0 _ rfl)
  have x1 : w5.cell? ⟨w4.heap.size, 1, none⟩ = some (.slice (some ⟨g4, 0, none⟩) m m) := e5.cell1 (new_cell _ _ _ 1 _ rfl)
  have E45 : Ext w4 w5 := ((Ext.refl w4).alloc _).trans e5
  have E5 : Ext w3 w5 := e4.trans E45
  have s0 := E5.cell1 q0
  have s1 := E5.cell1 q1
  have T5 := Lib.hid (T4.out.ext E45)
  have T6 := Lib.hid ((T1.out.ext E3).ext E5)
  have z0 : w.heap.size < w5.heap.size := World.block_lt_of_cell? w5 _ s0
  have z1 : w4.heap.size < w5.heap.size := World.block_lt_of_cell? w5 _ x0
  have EF := Lib.hid (EW.trans E5)
  clear q0 q1 e1 e2 e3 e4 e5 E3 EW E45 E5 T2 T4 T1 HE3 eW P0 P1 R1 R2 zb hg1 hg12 hg3 hg34
  go_wp2_with fail
  go_region_held3 (fun w' => w'.cell? ⟨w.heap.size, 0, none⟩ = some (.slice A n c) ∧ w'.cell? ⟨w.heap.size, 1, none⟩ = some (.slice B m d) ∧ w'.cell? ⟨w4.heap.size, 0, none⟩ = some (.slice (some ⟨g3, 0, none⟩) n n) ∧ w'.cell? ⟨w4.heap.size, 1, none⟩ = some (.slice (some ⟨g4, 0, none⟩) m m)) (((try dsimp only); go_split_ands; (repeat' apply And.intro) <;> first | assumption | exact Ext.cell1 he1 (by assumption) | (simp [*]; done) | (simp [*, go_sem, World.cell?_alloc_past]; done))) (first | (go_at_call 15; refine (toKindTable_any A n c B m d ss bs _ (T6.out.ext (by repeat (first | exact Ext.refl _ | assumption | refine Ext.trans ?_ (by assumption) | refine Ext.drew ?_ | refine Ext.drewN ?_ _ | refine Ext.alloc ?_ _)))).mono ?_; rintro e wt ⟨g5, g6, hg5, hg56, rfl, o5, o6, he1⟩; have T7 := Lib.hid (NewTab.tab (e := .returned (.bool true)) (w' := wt) T6.out o5 o6)) | (go_at_call 17; refine (eqKindTable_same _ _ n n n _ _ m m m ss bs _ (T5.out.ext (by repeat (first | exact Ext.refl _ | assumption | refine Ext.trans ?_ (by assumption) | refine Ext.drew ?_ | refine Ext.drewN ?_ _ | refine Ext.alloc ?_ _))) (by first | exact T7.out | exact T7.out.ext (by repeat (first | exact Ext.refl _ | assumption | refine Ext.trans ?_ (by assumption) | refine Ext.drew ?_ | refine Ext.drewN ?_ _ | refine Ext.alloc ?_ _)))).mono ?_; rintro e w6 ⟨rfl, he1⟩))
  all_goals
    have e56 : Ext w5 w6 := (by repeat (first | exact Ext.refl _ | assumption | refine Ext.trans ?_ (by assumption) | refine Ext.drew ?_ | refine Ext.drewN ?_ _ | refine Ext.alloc ?_ _))
    go_wp2_with fail
    go_ret
    exact ⟨rfl, EF.out.trans e56⟩
end Go.Proofs.Ytphalkeokpnpfaa
