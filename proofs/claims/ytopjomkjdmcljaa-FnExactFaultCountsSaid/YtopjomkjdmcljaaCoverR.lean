/- SpareMinutes, RouteOn. -/
import Derived.Test.YtopjomkjdmcljaaCoverD
import Derived.Test.YtopjomkjdmcljaaLate
import Derived.Test.YtopjomkjdmcljaaBest
import Derived.Deep.RegionHeld3
import Derived.Deep.RegionWith
namespace Go.Proofs.Ytopjomkjdmcljaa
open Go.RowKit
set_option linter.unusedVariables false
set_option linter.unusedSimpArgs false
attribute [local go_sem] ExtOf.cell

/-- A cover in a block of its own. -/
structure CoverAt (w : World) (g : Nat) (x : Cover) : Prop where
  c0 : w.cell? ⟨g, 0, none⟩ = some (.int .i64 x.Id)
  c1 : w.cell? ⟨g, 1, none⟩ = some (.int .i64 x.Day)
  c2 : w.cell? ⟨g, 2, none⟩ = some (.int .i64 x.Zone)
  c3 : w.cell? ⟨g, 3, none⟩ = some (.int .i64 x.Grams)
  c4 : w.cell? ⟨g, 4, none⟩ = some (.int .i64 x.Paid)
  c5 : w.cell? ⟨g, 5, none⟩ = some (.int .i64 x.From)
  c6 : w.cell? ⟨g, 6, none⟩ = some (.int .i64 x.To)
  c7 : w.cell? ⟨g, 7, none⟩ = some (.int .i64 x.Leave)
  c8 : w.cell? ⟨g, 8, none⟩ = some (.int .i64 x.Arrive)
theorem CoverAt.ext {w w' : World} {g : Nat} {x : Cover} (h : CoverAt w g x) (he : Ext w w') : CoverAt w' g x :=
  ⟨he.cell1 h.c0, he.cell1 h.c1, he.cell1 h.c2, he.cell1 h.c3, he.cell1 h.c4, he.cell1 h.c5, he.cell1 h.c6, he.cell1 h.c7, he.cell1 h.c8⟩
theorem CoverAt.new (w : World) (T : TypeId) (x : Cover) : CoverAt (w.alloc (.cells #[.int .i64 x.Id, .int .i64 x.Day, .int .i64 x.Zone, .int .i64 x.Grams, .int .i64 x.Paid, .int .i64 x.From, .int .i64 x.To, .int .i64 x.Leave, .int .i64 x.Arrive] T)) w.heap.size x :=
  ⟨new_cell _ _ _ 0 _ rfl, new_cell _ _ _ 1 _ rfl, new_cell _ _ _ 2 _ rfl, new_cell _ _ _ 3 _ rfl, new_cell _ _ _ 4 _ rfl, new_cell _ _ _ 5 _ rfl, new_cell _ _ _ 6 _ rfl, new_cell _ _ _ 7 _ rfl, new_cell _ _ _ 8 _ rfl⟩
theorem cvGood_all {x : Cover} (h : cvGood x = true) : inB x.From 0 9 = true ∧ inB x.To 0 9 = true ∧ (!(decide (x.From = x.To))) = true ∧ inB x.Arrive 0 9999 = true ∧ inB x.Leave 0 9999 = true ∧ (0 ≤ x.Leave ∧ x.Leave ≤ x.Arrive ∧ x.Arrive ≤ 9999) := by
  simp only [cvGood, cvOk, Bool.and_eq_true] at h
  obtain ⟨⟨⟨⟨⟨_, h1⟩, h2⟩, h3⟩, h4⟩, h5⟩ := h
  have a4 := inB_iff.1 h4
  have a5 := inB_iff.1 h5
  exact ⟨h1, h2, h3, h4, inB_iff.2 ⟨by omega, by omega⟩, by omega⟩
def askV (ms : List Mail) (x : Cover) : Bool := MailsOk ms && cvGood x
def spareOk (ms : List Mail) (x : Cover) : Bool := askV ms x && (decide (0 ≤ lateV ms x.From x.To x.Arrive) && decide (x.Leave ≤ lateV ms x.From x.To x.Arrive))
def spareR (ms : List Mail) (x : Cover) : Int := if spareOk ms x then lateV ms x.From x.To x.Arrive - x.Leave else 0
def routeOk (ms : List Mail) (x : Cover) : Bool := askV ms x && decide (times ms x.From x.Leave x.To.toNat ≤ x.Arrive)
def routeR (ms : List Mail) (x : Cover) : List Int := if routeOk ms x then bestV ms x.From x.Leave x.To else []
theorem routeR_len {ms : List Mail} {x : Cover} : (routeR ms x).length ≤ 10000 := by
  unfold routeR
  split
  · exact bestV_len
  · simp

set_option maxRecDepth 100000 in
set_option maxHeartbeats 1000000 in
theorem SpareMinutesI_any (A : Option Addr) (n c : Nat) (ms : List Mail) (x : Cover) (w : World) (h : MailL w A n ms) :
    Calls Try.prog 29 #[.slice A n c, .agg #[.int .i64 x.Id, .int .i64 x.Day, .int .i64 x.Zone, .int .i64 x.Grams, .int .i64 x.Paid, .int .i64 x.From, .int .i64 x.To, .int .i64 x.Leave, .int .i64 x.Arrive]] w fun e w' => e = .returned (.tuple #[.int .i64 (spareR ms x), .bool (spareOk ms x)]) ∧ Ext w w' := by
  have hsm := h.small
  rcases chain2 (MailsOk ms) (cvOk x.Id x.Day x.Zone x.Grams x.Paid x.From x.To x.Leave x.Arrive) with h1 | ⟨h1, h2⟩ | ⟨h1, h2⟩
  iterate 2
    · have hok : spareOk ms x = false := by simp [spareOk, askV, cvGood, *]
      rw [show spareR ms x = 0 by simp [spareR, hok], hok]
      clear hok
      go_enter Try.func29, Try.ntmps29
      go_wp2_with (first | (go_at_call 59; refine (isTimetable_any _ _ _ ms _ (h.ext (by repeat (first | exact Ext.refl _ | assumption | refine Ext.trans ?_ (by assumption) | refine Ext.drew ?_ | refine Ext.drewN ?_ _ | refine Ext.alloc ?_ _)))).mono ?_; rintro e wa ⟨rfl, he1⟩; have X1 := (CoverAt.new w _ x).ext he1; obtain ⟨p0, p1, p2, p3, p4, p5, p6, p7, p8⟩ := X1) | (go_at_call 45; refine (isCover_any _ _ _ _ _ _ _ _ _ _).mono ?_; rintro e wb ⟨rfl, he2⟩; obtain ⟨p0, p1, p2, p3, p4, p5, p6, p7, p8⟩ := ((CoverAt.new w _ x).ext he1).ext he2))
      go_ret2
      exact ⟨rfl, (by repeat (first | exact Ext.refl _ | assumption | refine Ext.trans ?_ (by assumption) | refine Ext.drew ?_ | refine Ext.drewN ?_ _ | refine Ext.alloc ?_ _))⟩
  · obtain ⟨q1, q2, q3, q4, q5, q6, q7, q8⟩ := cvGood_all (show cvGood x = true from h2)
    have ha : askV ms x = true := by simp [askV, cvGood, *]
    have C := Lib.hid (fun wx (hx : MailL wx A n ms) => latestLeave_any A n c ms x.From x.To x.Arrive wx hx h1 q2 q8)
    obtain ⟨l1, l2⟩ := lateV_bd (f := x.From) (t := x.To) (y := x.Arrive) h1
    have Y1 := Lib.hid (fun (hh : spareOk ms x = true) => show spareR ms x = lateV ms x.From x.To x.Arrive - x.Leave by simp [spareR, hh])
    have Y2 := Lib.hid (fun (hh : spareOk ms x = false) => show spareR ms x = 0 by simp [spareR, hh])
    have Z := Lib.hid (show spareOk ms x = (decide (0 ≤ lateV ms x.From x.To x.Arrive) && decide (x.Leave ≤ lateV ms x.From x.To x.Arrive)) by unfold spareOk; rw [ha, Bool.true_and])
    obtain ⟨L, hL⟩ : ∃ L, lateV ms x.From x.To x.Arrive = L := ⟨_, rfl⟩
    rw [hL] at l1 l2
    by_cases c1 : 0 ≤ L
    · by_cases c2 : x.Leave ≤ L
      · have hok : spareOk ms x = true := by rw [Z.out, hL]; simp [c1, c2]
        have hsp := Y1.out hok
        rw [hL] at hsp
        rw [hsp, hok]
        have C2 := Lib.hid (fun wx (hx : MailL wx A n ms) => (C.out wx hx).mono (fun e w' (hh : _ ∧ _) => (show e = .returned (.tuple #[.int .i64 L, .bool true]) ∧ Ext wx w' from ⟨hh.1.trans (by rw [hL]; simp [c1]; omega), hh.2⟩)))
        clear C Y1 Y2 Z hsp hok hL
        have d1 : decide (L < x.Leave) = false := by simp; omega
        go_enter Try.func29, Try.ntmps29
        go_wp2_with (first | (go_at_call 59; refine (isTimetable_any _ _ _ ms _ (h.ext (by repeat (first | exact Ext.refl _ | assumption | refine Ext.trans ?_ (by assumption) | refine Ext.drew ?_ | refine Ext.drewN ?_ _ | refine Ext.alloc ?_ _)))).mono ?_; rintro e wa ⟨rfl, he1⟩; have X1 := (CoverAt.new w _ x).ext he1; obtain ⟨p0, p1, p2, p3, p4, p5, p6, p7, p8⟩ := X1) | (go_at_call 45; refine (isCover_any _ _ _ _ _ _ _ _ _ _).mono ?_; rintro e wb ⟨rfl, he2⟩; obtain ⟨p0, p1, p2, p3, p4, p5, p6, p7, p8⟩ := ((CoverAt.new w _ x).ext he1).ext he2) | (go_at_call 60; refine (C2.out _ (h.ext (by repeat (first | exact Ext.refl _ | assumption | refine Ext.trans ?_ (by assumption) | refine Ext.drew ?_ | refine Ext.drewN ?_ _ | refine Ext.alloc ?_ _)))).mono ?_; rintro e wc ⟨rfl, he3⟩; obtain ⟨p0, p1, p2, p3, p4, p5, p6, p7, p8⟩ := (((CoverAt.new w _ x).ext he1).ext he2).ext he3))
        go_ret2
        exact ⟨rfl, (by repeat (first | exact Ext.refl _ | assumption | refine Ext.trans ?_ (by assumption) | refine Ext.drew ?_ | refine Ext.drewN ?_ _ | refine Ext.alloc ?_ _))⟩
      · have hok : spareOk ms x = false := by rw [Z.out, hL]; simp [c2]
        rw [Y2.out hok, hok]
        have C2 := Lib.hid (fun wx (hx : MailL wx A n ms) => (C.out wx hx).mono (fun e w' (hh : _ ∧ _) => (show e = .returned (.tuple #[.int .i64 L, .bool true]) ∧ Ext wx w' from ⟨hh.1.trans (by rw [hL]; simp [c1]; omega), hh.2⟩)))
        clear C Y1 Y2 Z hok hL
        have d1 : decide (L < x.Leave) = true := by simp; omega
        go_enter Try.func29, Try.ntmps29
        go_wp2_with (first | (go_at_call 59; refine (isTimetable_any _ _ _ ms _ (h.ext (by repeat (first | exact Ext.refl _ | assumption | refine Ext.trans ?_ (by assumption) | refine Ext.drew ?_ | refine Ext.drewN ?_ _ | refine Ext.alloc ?_ _)))).mono ?_; rintro e wa ⟨rfl, he1⟩; have X1 := (CoverAt.new w _ x).ext he1; obtain ⟨p0, p1, p2, p3, p4, p5, p6, p7, p8⟩ := X1) | (go_at_call 45; refine (isCover_any _ _ _ _ _ _ _ _ _ _).mono ?_; rintro e wb ⟨rfl, he2⟩; obtain ⟨p0, p1, p2, p3, p4, p5, p6, p7, p8⟩ := ((CoverAt.new w _ x).ext he1).ext he2) | (go_at_call 60; refine (C2.out _ (h.ext (by repeat (first | exact Ext.refl _ | assumption | refine Ext.trans ?_ (by assumption) | refine Ext.drew ?_ | refine Ext.drewN ?_ _ | refine Ext.alloc ?_ _)))).mono ?_; rintro e wc ⟨rfl, he3⟩; obtain ⟨p0, p1, p2, p3, p4, p5, p6, p7, p8⟩ := (((CoverAt.new w _ x).ext he1).ext he2).ext he3))
        go_ret2
        exact ⟨rfl, (by repeat (first | exact Ext.refl _ | assumption | refine Ext.trans ?_ (by assumption) | refine Ext.drew ?_ | refine Ext.drewN ?_ _ | refine Ext.alloc ?_ _))⟩
    · have hok : spareOk ms x = false := by rw [Z.out, hL]; simp [c1]
      rw [Y2.out hok, hok]
      have C2 := Lib.hid (fun wx (hx : MailL wx A n ms) => (C.out wx hx).mono (fun e w' (hh : _ ∧ _) => (show e = .returned (.tuple #[.int .i64 0, .bool false]) ∧ Ext wx w' from ⟨hh.1.trans (by rw [hL]; simp [c1]; omega), hh.2⟩)))
      clear C Y1 Y2 Z hok hL
      go_enter Try.func29, Try.ntmps29
      go_wp2_with (first | (go_at_call 59; refine (isTimetable_any _ _ _ ms _ (h.ext (by repeat (first | exact Ext.refl _ | assumption | refine Ext.trans ?_ (by assumption) | refine Ext.drew ?_ | refine Ext.drewN ?_ _ | refine Ext.alloc ?_ _)))).mono ?_; rintro e wa ⟨rfl, he1⟩; have X1 := (CoverAt.new w _ x).ext he1; obtain ⟨p0, p1, p2, p3, p4, p5, p6, p7, p8⟩ := X1) | (go_at_call 45; refine (isCover_any _ _ _ _ _ _ _ _ _ _).mono ?_; rintro e wb ⟨rfl, he2⟩; obtain ⟨p0, p1, p2, p3, p4, p5, p6, p7, p8⟩ := ((CoverAt.new w _ x).ext he1).ext he2) | (go_at_call 60; refine (C2.out _ (h.ext (by repeat (first | exact Ext.refl _ | assumption | refine Ext.trans ?_ (by assumption) | refine Ext.drew ?_ | refine Ext.drewN ?_ _ | refine Ext.alloc ?_ _)))).mono ?_; rintro e wc ⟨rfl, he3⟩; obtain ⟨p0, p1, p2, p3, p4, p5, p6, p7, p8⟩ := (((CoverAt.new w _ x).ext he1).ext he2).ext he3))
      go_ret2
      exact ⟨rfl, (by repeat (first | exact Ext.refl _ | assumption | refine Ext.trans ?_ (by assumption) | refine Ext.drew ?_ | refine Ext.drewN ?_ _ | refine Ext.alloc ?_ _))⟩

set_option maxRecDepth 100000 in
set_option maxHeartbeats 1000000 in
theorem SpareMinutesS_any (A : Option Addr) (n c : Nat) (ms : List Mail) (x : Cover) (w : World) (h : MailL w A n ms) :
    Calls Try.prog 27 #[.slice A n c, .agg #[.int .i64 x.Id, .int .i64 x.Day, .int .i64 x.Zone, .int .i64 x.Grams, .int .i64 x.Paid, .int .i64 x.From, .int .i64 x.To, .int .i64 x.Leave, .int .i64 x.Arrive]] w fun e w' => e = .returned (.tuple #[.int .i64 (spareR ms x), .bool (spareOk ms x)]) ∧ Ext w w' := by
  have hsm := h.small
  rcases chain2 (MailsOk ms) (cvOk x.Id x.Day x.Zone x.Grams x.Paid x.From x.To x.Leave x.Arrive) with h1 | ⟨h1, h2⟩ | ⟨h1, h2⟩
  iterate 2
    · have hok : spareOk ms x = false := by simp [spareOk, askV, cvGood, *]
      rw [show spareR ms x = 0 by simp [spareR, hok], hok]
      clear hok
      go_enter Try.func27, Try.ntmps27
      go_wp2_with (first | (go_at_call 56; refine (l9Good_any _ _ _ ms _ (h.ext (by repeat (first | exact Ext.refl _ | assumption | refine Ext.trans ?_ (by assumption) | refine Ext.drew ?_ | refine Ext.drewN ?_ _ | refine Ext.alloc ?_ _)))).mono ?_; rintro e wa ⟨rfl, he1⟩; have X1 := (CoverAt.new w _ x).ext he1; obtain ⟨p0, p1, p2, p3, p4, p5, p6, p7, p8⟩ := X1) | (go_at_call 44; refine (l10One_any _ _ _ _ _ _ _ _ _ _).mono ?_; rintro e wb ⟨rfl, he2⟩; obtain ⟨p0, p1, p2, p3, p4, p5, p6, p7, p8⟩ := ((CoverAt.new w _ x).ext he1).ext he2))
      go_ret2
      exact ⟨rfl, (by repeat (first | exact Ext.refl _ | assumption | refine Ext.trans ?_ (by assumption) | refine Ext.drew ?_ | refine Ext.drewN ?_ _ | refine Ext.alloc ?_ _))⟩
  · obtain ⟨q1, q2, q3, q4, q5, q6, q7, q8⟩ := cvGood_all (show cvGood x = true from h2)
    have ha : askV ms x = true := by simp [askV, cvGood, *]
    have hl : askL ms x.From x.To x.Arrive = true := by simp only [askL, *]; rfl
    have C := Lib.hid (fun wx (hx : MailL wx A n ms) => LatestLeaveS_any A n c ms x.From x.To x.Arrive wx hx)
    rw [show lateR ms x.From x.To x.Arrive = max (lateV ms x.From x.To x.Arrive) 0 by simp [lateR, hl], show hasL ms x.From x.To x.Arrive = decide (0 ≤ lateV ms x.From x.To x.Arrive) by simp [hasL, hl]] at C
    obtain ⟨l1, l2⟩ := lateV_bd (f := x.From) (t := x.To) (y := x.Arrive) h1
    have Y1 := Lib.hid (fun (hh : spareOk ms x = true) => show spareR ms x = lateV ms x.From x.To x.Arrive - x.Leave by simp [spareR, hh])
    have Y2 := Lib.hid (fun (hh : spareOk ms x = false) => show spareR ms x = 0 by simp [spareR, hh])
    have Z := Lib.hid (show spareOk ms x = (decide (0 ≤ lateV ms x.From x.To x.Arrive) && decide (x.Leave ≤ lateV ms x.From x.To x.Arrive)) by unfold spareOk; rw [ha, Bool.true_and])
    obtain ⟨L, hL⟩ : ∃ L, lateV ms x.From x.To x.Arrive = L := ⟨_, rfl⟩
    rw [hL] at l1 l2
    by_cases c1 : 0 ≤ L
    · by_cases c2 : x.Leave ≤ L
      · have hok : spareOk ms x = true := by rw [Z.out, hL]; simp [c1, c2]
        have hsp := Y1.out hok
        rw [hL] at hsp
        rw [hsp, hok]
        have C2 := Lib.hid (fun wx (hx : MailL wx A n ms) => (C.out wx hx).mono (fun e w' (hh : _ ∧ _) => (show e = .returned (.tuple #[.int .i64 L, .bool true]) ∧ Ext wx w' from ⟨hh.1.trans (by rw [hL]; simp [c1]; omega), hh.2⟩)))
        clear C Y1 Y2 Z hsp hok hL
        have d1 : decide (L < x.Leave) = false := by simp; omega
        go_enter Try.func27, Try.ntmps27
        go_wp2_with (first | (go_at_call 56; refine (l9Good_any _ _ _ ms _ (h.ext (by repeat (first | exact Ext.refl _ | assumption | refine Ext.trans ?_ (by assumption) | refine Ext.drew ?_ | refine Ext.drewN ?_ _ | refine Ext.alloc ?_ _)))).mono ?_; rintro e wa ⟨rfl, he1⟩; have X1 := (CoverAt.new w _ x).ext he1; obtain ⟨p0, p1, p2, p3, p4, p5, p6, p7, p8⟩ := X1) | (go_at_call 44; refine (l10One_any _ _ _ _ _ _ _ _ _ _).mono ?_; rintro e wb ⟨rfl, he2⟩; obtain ⟨p0, p1, p2, p3, p4, p5, p6, p7, p8⟩ := ((CoverAt.new w _ x).ext he1).ext he2) | (go_at_call 57; refine (C2.out _ (h.ext (by repeat (first | exact Ext.refl _ | assumption | refine Ext.trans ?_ (by assumption) | refine Ext.drew ?_ | refine Ext.drewN ?_ _ | refine Ext.alloc ?_ _)))).mono ?_; rintro e wc ⟨rfl, he3⟩; obtain ⟨p0, p1, p2, p3, p4, p5, p6, p7, p8⟩ := (((CoverAt.new w _ x).ext he1).ext he2).ext he3))
        go_ret2
        exact ⟨rfl, (by repeat (first | exact Ext.refl _ | assumption | refine Ext.trans ?_ (by assumption) | refine Ext.drew ?_ | refine Ext.drewN ?_ _ | refine Ext.alloc ?_ _))⟩
      · have hok : spareOk ms x = false := by rw [Z.out, hL]; simp [c2]
        rw [Y2.out hok, hok]
        have C2 := Lib.hid (fun wx (hx : MailL wx A n ms) => (C.out wx hx).mono (fun e w' (hh : _ ∧ _) => (show e = .returned (.tuple #[.int .i64 L, .bool true]) ∧ Ext wx w' from ⟨hh.1.trans (by rw [hL]; simp [c1]; omega), hh.2⟩)))
        clear C Y1 Y2 Z hok hL
        have d1 : decide (L < x.Leave) = true := by simp; omega
        go_enter Try.func27, Try.ntmps27
        go_wp2_with (first | (go_at_call 56; refine (l9Good_any _ _ _ ms _ (h.ext (by repeat (first | exact Ext.refl _ | assumption | refine Ext.trans ?_ (by assumption) | refine Ext.drew ?_ | refine Ext.drewN ?_ _ | refine Ext.alloc ?_ _)))).mono ?_; rintro e wa ⟨rfl, he1⟩; have X1 := (CoverAt.new w _ x).ext he1; obtain ⟨p0, p1, p2, p3, p4, p5, p6, p7, p8⟩ := X1) | (go_at_call 44; refine (l10One_any _ _ _ _ _ _ _ _ _ _).mono ?_; rintro e wb ⟨rfl, he2⟩; obtain ⟨p0, p1, p2, p3, p4, p5, p6, p7, p8⟩ := ((CoverAt.new w _ x).ext he1).ext he2) | (go_at_call 57; refine (C2.out _ (h.ext (by repeat (first | exact Ext.refl _ | assumption | refine Ext.trans ?_ (by assumption) | refine Ext.drew ?_ | refine Ext.drewN ?_ _ | refine Ext.alloc ?_ _)))).mono ?_; rintro e wc ⟨rfl, he3⟩; obtain ⟨p0, p1, p2, p3, p4, p5, p6, p7, p8⟩ := (((CoverAt.new w _ x).ext he1).ext he2).ext he3))
        go_ret2
        exact ⟨rfl, (by repeat (first | exact Ext.refl _ | assumption | refine Ext.trans ?_ (by assumption) | refine Ext.drew ?_ | refine Ext.drewN ?_ _ | refine Ext.alloc ?_ _))⟩
    · have hok : spareOk ms x = false := by rw [Z.out, hL]; simp [c1]
      rw [Y2.out hok, hok]
      have C2 := Lib.hid (fun wx (hx : MailL wx A n ms) => (C.out wx hx).mono (fun e w' (hh : _ ∧ _) => (show e = .returned (.tuple #[.int .i64 0, .bool false]) ∧ Ext wx w' from ⟨hh.1.trans (by rw [hL]; simp [c1]; omega), hh.2⟩)))
      clear C Y1 Y2 Z hok hL
      go_enter Try.func27, Try.ntmps27
      go_wp2_with (first | (go_at_call 56; refine (l9Good_any _ _ _ ms _ (h.ext (by repeat (first | exact Ext.refl _ | assumption | refine Ext.trans ?_ (by assumption) | refine Ext.drew ?_ | refine Ext.drewN ?_ _ | refine Ext.alloc ?_ _)))).mono ?_; rintro e wa ⟨rfl, he1⟩; have X1 := (CoverAt.new w _ x).ext he1; obtain ⟨p0, p1, p2, p3, p4, p5, p6, p7, p8⟩ := X1) | (go_at_call 44; refine (l10One_any _ _ _ _ _ _ _ _ _ _).mono ?_; rintro e wb ⟨rfl, he2⟩; obtain ⟨p0, p1, p2, p3, p4, p5, p6, p7, p8⟩ := ((CoverAt.new w _ x).ext he1).ext he2) | (go_at_call 57; refine (C2.out _ (h.ext (by repeat (first | exact Ext.refl _ | assumption | refine Ext.trans ?_ (by assumption) | refine Ext.drew ?_ | refine Ext.drewN ?_ _ | refine Ext.alloc ?_ _)))).mono ?_; rintro e wc ⟨rfl, he3⟩; obtain ⟨p0, p1, p2, p3, p4, p5, p6, p7, p8⟩ := (((CoverAt.new w _ x).ext he1).ext he2).ext he3))
      go_ret2
      exact ⟨rfl, (by repeat (first | exact Ext.refl _ | assumption | refine Ext.trans ?_ (by assumption) | refine Ext.drew ?_ | refine Ext.drewN ?_ _ | refine Ext.alloc ?_ _))⟩

set_option maxRecDepth 100000 in
set_option maxHeartbeats 2000000 in
theorem routeOn_any (A : Option Addr) (n c : Nat) (ms : List Mail) (x : Cover) (w : World) (h : MailL w A n ms) (ha : askV ms x = true) :
    Calls Try.prog 63 #[.slice A n c, .agg #[.int .i64 x.Id, .int .i64 x.Day, .int .i64 x.Zone, .int .i64 x.Grams, .int .i64 x.Paid, .int .i64 x.From, .int .i64 x.To, .int .i64 x.Leave, .int .i64 x.Arrive]] w (RowPost 3 1 (ints (routeR ms x)) (routeOk ms x) w) := by
  have ha2 := ha
  simp only [askV, Bool.and_eq_true] at ha2
  obtain ⟨h1, h2⟩ := ha2
  obtain ⟨q1, q2, q3, q4, q5, q6, q7, q8⟩ := cvGood_all h2
  obtain ⟨t1, t2⟩ := inB_iff.1 q2
  have ht10 : x.To.toNat < 10 := by omega
  have t3 : x.To < 10 := by omega
  have hbd := times_bd (f := x.From) (MailsOk_good h1) q6 (by omega : x.Leave ≤ 9999) x.To.toNat
  have hin := negT_in (l := x.Arrive) (by omega : 0 ≤ times ms x.From x.Leave x.To.toNat) hbd.2 q8
  have hne : times ms x.From x.Leave x.To.toNat ≤ x.Arrive → times ms x.From x.Leave x.To.toNat ≠ 10000 := fun hh => by omega
  have K1 := Lib.hid (fun wx (hx : MailL wx A n ms) => earliest_any A n c ms x.From x.Leave wx hx h1 q1 q5)
  have K2 := Lib.hid (fun wx (hx : MailL wx A n ms) => bestRoute_any A n c ms x.From x.Leave x.To wx hx h1 q1 q5 q2)
  cases hq : decide (times ms x.From x.Leave x.To.toNat ≤ x.Arrive)
  · have hok : routeOk ms x = false := by unfold routeOk; rw [hq, Bool.and_false]
    rw [show routeR ms x = [] by simp [routeR, hok], hok]
    have C := Lib.hid (inRange_any (negT (times ms x.From x.Leave x.To.toNat)) 0 x.Arrive)
    rw [hin, hq] at C
    clear hok hq hin hne hbd K2 ha h1 h2 q1 q2 q3 q4 q5
    go_enter Try.func63, Try.ntmps63
    go_wp2
    refine wp_region_held_drew (S := (fun w' => w'.cell? ⟨w.heap.size, 0, none⟩ = some (.int .i64 x.Id) ∧ w'.cell? ⟨w.heap.size, 1, none⟩ = some (.int .i64 x.Day) ∧ w'.cell? ⟨w.heap.size, 2, none⟩ = some (.int .i64 x.Zone) ∧ w'.cell? ⟨w.heap.size, 3, none⟩ = some (.int .i64 x.Grams) ∧ w'.cell? ⟨w.heap.size, 4, none⟩ = some (.int .i64 x.Paid) ∧ w'.cell? ⟨w.heap.size, 5, none⟩ = some (.int .i64 x.From) ∧ w'.cell? ⟨w.heap.size, 6, none⟩ = some (.int .i64 x.To) ∧ w'.cell? ⟨w.heap.size, 7, none⟩ = some (.int .i64 x.Leave) ∧ w'.cell? ⟨w.heap.size, 8, none⟩ = some (.int .i64 x.Arrive))) (by kernel_rfl) ?_ (fun hHeld => ?_); (focus ((try dsimp only); (repeat' apply And.intro) <;> first | assumption | (simp [*, go_sem]; done) | (simp [*, go_sem, World.cell?_alloc_past]; done)))
    (refine wpAnyH_take (i := 0) (v := ?_) rfl (by kernel_rfl) (by kernel_rfl) (by kernel_rfl) (fun _ _ _ h => h) (Or.inl ⟨by rfl, ?_⟩) (by assumption) ?_); rotate_left 1; (focus (intro w hSw; (try dsimp only at hSw); go_simp; (try with_reducible rfl))); (try simp only [Act.put, List.setIfInBounds_toArray, List.set_cons_zero, List.set_cons_succ]); (refine wpAnyH_take (i := 1) (v := ?_) rfl (by kernel_rfl) (by kernel_rfl) (by kernel_rfl) (fun _ _ _ h => h) (Or.inl ⟨by rfl, ?_⟩) (by assumption) ?_); rotate_left 1; (focus (intro w hSw; (try dsimp only at hSw); go_simp; (try with_reducible rfl))); (try simp only [Act.put, List.setIfInBounds_toArray, List.set_cons_zero, List.set_cons_succ]); (refine wpAnyH_take (i := 3) (v := ?_) rfl (by kernel_rfl) (by kernel_rfl) (by kernel_rfl) (fun _ _ _ h => h) (Or.inl ⟨by rfl, ?_⟩) (by assumption) ?_); rotate_left 1; (focus (intro w hSw; (try dsimp only at hSw); go_simp; (try with_reducible rfl))); (try simp only [Act.put, List.setIfInBounds_toArray, List.set_cons_zero, List.set_cons_succ]); (refine wpAnyH_take (i := 6) (v := ?_) rfl (by kernel_rfl) (by kernel_rfl) (by kernel_rfl) (fun _ _ _ h => h) (Or.inl ⟨by rfl, ?_⟩) (by assumption) ?_); rotate_left 1; (focus (intro w hSw; (try dsimp only at hSw); go_simp; (try with_reducible rfl))); (try simp only [Act.put, List.setIfInBounds_toArray, List.set_cons_zero, List.set_cons_succ]); (refine wpAnyH_take (i := 10) (v := ?_) rfl (by kernel_rfl) (by kernel_rfl) (by kernel_rfl) (fun _ _ _ h => h) (Or.inl ⟨by rfl, ?_⟩) (by assumption) ?_); rotate_left 1; (focus (intro w hSw; (try dsimp only at hSw); go_simp; (try with_reducible rfl))); (try simp only [Act.put, List.setIfInBounds_toArray, List.set_cons_zero, List.set_cons_succ]); (refine wpAnyH_take (i := 2) (v := ?_) rfl (by kernel_rfl) (by kernel_rfl) (by kernel_rfl) (fun _ _ _ h => h) (Or.inl ⟨by rfl, ?_⟩) (by assumption) ?_); rotate_left 1; (focus (intro w hSw; (try dsimp only at hSw); go_simp; (try with_reducible rfl))); (try simp only [Act.put, List.setIfInBounds_toArray, List.set_cons_zero, List.set_cons_succ]); (refine wpAnyH_take (i := 4) (v := ?_) rfl (by kernel_rfl) (by kernel_rfl) (by kernel_rfl) (fun _ _ _ h => h) (Or.inl ⟨by rfl, ?_⟩) (by assumption) ?_); rotate_left 1; (focus (intro w hSw; (try dsimp only at hSw); go_simp; (try with_reducible rfl))); (try simp only [Act.put, List.setIfInBounds_toArray, List.set_cons_zero, List.set_cons_succ]); (refine wpAnyH_take (i := 7) (v := ?_) rfl (by kernel_rfl) (by kernel_rfl) (by kernel_rfl) (fun _ _ _ h => h) (Or.inl ⟨by rfl, ?_⟩) (by assumption) ?_); rotate_left 1; (focus (intro w hSw; (try dsimp only at hSw); go_simp; (try with_reducible rfl))); (try simp only [Act.put, List.setIfInBounds_toArray, List.set_cons_zero, List.set_cons_succ]); (refine wpAnyH_take (i := 11) (v := ?_) rfl (by kernel_rfl) (by kernel_rfl) (by kernel_rfl) (fun _ _ _ h => h) (Or.inl ⟨by rfl, ?_⟩) (by assumption) ?_); rotate_left 1; (focus (intro w hSw; (try dsimp only at hSw); go_simp; (try with_reducible rfl))); (try simp only [Act.put, List.setIfInBounds_toArray, List.set_cons_zero, List.set_cons_succ])
    refine wpAnyH_ready (rs := [5]) (by kernel_rfl) (by simp) ?_; refine AllReadyH.cons rfl (fun K hK => ?_) AllReadyH.nil; go_simp; (go_at_call 88; refine (K1.out _ (h.ext (by repeat (first | exact Ext.refl _ | assumption | refine Ext.trans ?_ (by assumption) | refine Ext.drew ?_ | refine Ext.drewN ?_ _ | refine Ext.alloc ?_ _)))).mono ?_; rintro e wa ⟨ge, hge, rfl, oe, he1⟩; have ce := row_cell oe ht10; unfold negF at ce; have X1 : CoverAt wa w.heap.size x := (CoverAt.new w 28 x).ext (by repeat (first | exact Ext.refl _ | assumption | refine Ext.trans ?_ (by assumption) | refine Ext.drew ?_ | refine Ext.drewN ?_ _ | refine Ext.alloc ?_ _)); obtain ⟨p0, p1, p2, p3, p4, p5, p6, p7, p8⟩ := X1); (try go_wp2_with fail); refine hK.out _ _ ?_ (fun hHeld => ?_); (focus (((try dsimp only); go_split_ands; (repeat' apply And.intro) <;> first | assumption | exact Ext.cell1 he1 (by assumption) | (simp [*]; done) | (simp [*, go_sem, World.cell?_alloc_past]; done)))); clear hK K; (try simp only [Act.put, List.setIfInBounds_toArray, List.set_cons_zero, List.set_cons_succ])
    (refine wpAnyH_take (i := 8) (v := ?_) rfl (by kernel_rfl) (by kernel_rfl) (by kernel_rfl) (fun _ _ _ h => h) (Or.inl ⟨by rfl, ?_⟩) (by assumption) ?_); rotate_left 1; (focus (intro w hSw; (try dsimp only at hSw); go_simp; (try with_reducible rfl))); (try simp only [Act.put, List.setIfInBounds_toArray, List.set_cons_zero, List.set_cons_succ])
    refine wpAnyH_ready (rs := [9]) (by kernel_rfl) (by simp) ?_; refine AllReadyH.cons rfl (fun K hK => ?_) AllReadyH.nil; go_simp; skip; (try go_wp2_with fail); refine hK.out _ _ ?_ (fun hHeld => ?_); (focus (((try dsimp only); go_split_ands; (repeat' apply And.intro) <;> first | assumption | exact Ext.cell1 he1 (by assumption) | (simp [*]; done) | (simp [*, go_sem, World.cell?_alloc_past]; done)))); clear hK K; (try simp only [Act.put, List.setIfInBounds_toArray, List.set_cons_zero, List.set_cons_succ])
    refine wpAnyH_ready (rs := [12]) (by kernel_rfl) (by simp) ?_; refine AllReadyH.cons rfl (fun K hK => ?_) AllReadyH.nil; go_simp; (go_at_call 43; refine (C.out _).mono ?_; rintro e w' ⟨rfl, rfl⟩); (try go_wp2_with fail); refine hK.out _ _ ?_ (fun hHeld => ?_); (focus (((try dsimp only); go_split_ands; (repeat' apply And.intro) <;> first | assumption | exact Ext.cell1 he1 (by assumption) | (simp [*]; done) | (simp [*, go_sem, World.cell?_alloc_past]; done)))); clear hK K; (try simp only [Act.put, List.setIfInBounds_toArray, List.set_cons_zero, List.set_cons_succ])
    (refine wpAnyH_take (i := 13) (v := ?_) rfl (by kernel_rfl) (by kernel_rfl) (by kernel_rfl) (fun _ _ _ h => h) (Or.inl ⟨by rfl, ?_⟩) (by assumption) ?_); rotate_left 1; (focus (intro w hSw; (try dsimp only at hSw); go_simp; (try with_reducible rfl))); (try simp only [Act.put, List.setIfInBounds_toArray, List.set_cons_zero, List.set_cons_succ])
    refine wpAnyH_done (by kernel_rfl) ?_ _
    all_goals
      go_wp2
      go_ret2
      exact ⟨none, 0, 0, rfl, own_nil _ _ _ _, (by repeat (first | exact Ext.refl _ | assumption | refine Ext.trans ?_ (by assumption) | refine Ext.drew ?_ | refine Ext.drewN ?_ _ | refine Ext.alloc ?_ _))⟩
  · have hle : times ms x.From x.Leave x.To.toNat ≤ x.Arrive := by simpa using hq
    have hok : routeOk ms x = true := by unfold routeOk; rw [ha, hq]; rfl
    rw [show routeR ms x = bestV ms x.From x.Leave x.To by simp [routeR, hok], hok]
    have C := Lib.hid (inRange_any (negT (times ms x.From x.Leave x.To.toNat)) 0 x.Arrive)
    rw [hin, hq] at C
    have hb : (!(decide (times ms x.From x.Leave x.To.toNat = 10000))) = true := by simp [hne hle]
    rw [hb] at K2
    generalize bestV ms x.From x.Leave x.To = R at *
    clear hok hq hin hne hbd ha h1 h2 q1 q2 q3 q4 q5 hb hle
    go_enter Try.func63, Try.ntmps63
    go_wp2
    refine wp_region_held_drew (S := (fun w' => w'.cell? ⟨w.heap.size, 0, none⟩ = some (.int .i64 x.Id) ∧ w'.cell? ⟨w.heap.size, 1, none⟩ = some (.int .i64 x.Day) ∧ w'.cell? ⟨w.heap.size, 2, none⟩ = some (.int .i64 x.Zone) ∧ w'.cell? ⟨w.heap.size, 3, none⟩ = some (.int .i64 x.Grams) ∧ w'.cell? ⟨w.heap.size, 4, none⟩ = some (.int .i64 x.Paid) ∧ w'.cell? ⟨w.heap.size, 5, none⟩ = some (.int .i64 x.From) ∧ w'.cell? ⟨w.heap.size, 6, none⟩ = some (.int .i64 x.To) ∧ w'.cell? ⟨w.heap.size, 7, none⟩ = some (.int .i64 x.Leave) ∧ w'.cell? ⟨w.heap.size, 8, none⟩ = some (.int .i64 x.Arrive))) (by kernel_rfl) ?_ (fun hHeld => ?_); (focus ((try dsimp only); (repeat' apply And.intro) <;> first | assumption | (simp [*, go_sem]; done) | (simp [*, go_sem, World.cell?_alloc_past]; done)))
    (refine wpAnyH_take (i := 0) (v := ?_) rfl (by kernel_rfl) (by kernel_rfl) (by kernel_rfl) (fun _ _ _ h => h) (Or.inl ⟨by rfl, ?_⟩) (by assumption) ?_); rotate_left 1; (focus (intro w hSw; (try dsimp only at hSw); go_simp; (try with_reducible rfl))); (try simp only [Act.put, List.setIfInBounds_toArray, List.set_cons_zero, List.set_cons_succ]); (refine wpAnyH_take (i := 1) (v := ?_) rfl (by kernel_rfl) (by kernel_rfl) (by kernel_rfl) (fun _ _ _ h => h) (Or.inl ⟨by rfl, ?_⟩) (by assumption) ?_); rotate_left 1; (focus (intro w hSw; (try dsimp only at hSw); go_simp; (try with_reducible rfl))); (try simp only [Act.put, List.setIfInBounds_toArray, List.set_cons_zero, List.set_cons_succ]); (refine wpAnyH_take (i := 3) (v := ?_) rfl (by kernel_rfl) (by kernel_rfl) (by kernel_rfl) (fun _ _ _ h => h) (Or.inl ⟨by rfl, ?_⟩) (by assumption) ?_); rotate_left 1; (focus (intro w hSw; (try dsimp only at hSw); go_simp; (try with_reducible rfl))); (try simp only [Act.put, List.setIfInBounds_toArray, List.set_cons_zero, List.set_cons_succ]); (refine wpAnyH_take (i := 6) (v := ?_) rfl (by kernel_rfl) (by kernel_rfl) (by kernel_rfl) (fun _ _ _ h => h) (Or.inl ⟨by rfl, ?_⟩) (by assumption) ?_); rotate_left 1; (focus (intro w hSw; (try dsimp only at hSw); go_simp; (try with_reducible rfl))); (try simp only [Act.put, List.setIfInBounds_toArray, List.set_cons_zero, List.set_cons_succ]); (refine wpAnyH_take (i := 10) (v := ?_) rfl (by kernel_rfl) (by kernel_rfl) (by kernel_rfl) (fun _ _ _ h => h) (Or.inl ⟨by rfl, ?_⟩) (by assumption) ?_); rotate_left 1; (focus (intro w hSw; (try dsimp only at hSw); go_simp; (try with_reducible rfl))); (try simp only [Act.put, List.setIfInBounds_toArray, List.set_cons_zero, List.set_cons_succ]); (refine wpAnyH_take (i := 2) (v := ?_) rfl (by kernel_rfl) (by kernel_rfl) (by kernel_rfl) (fun _ _ _ h => h) (Or.inl ⟨by rfl, ?_⟩) (by assumption) ?_); rotate_left 1; (focus (intro w hSw; (try dsimp only at hSw); go_simp; (try with_reducible rfl))); (try simp only [Act.put, List.setIfInBounds_toArray, List.set_cons_zero, List.set_cons_succ]); (refine wpAnyH_take (i := 4) (v := ?_) rfl (by kernel_rfl) (by kernel_rfl) (by kernel_rfl) (fun _ _ _ h => h) (Or.inl ⟨by rfl, ?_⟩) (by assumption) ?_); rotate_left 1; (focus (intro w hSw; (try dsimp only at hSw); go_simp; (try with_reducible rfl))); (try simp only [Act.put, List.setIfInBounds_toArray, List.set_cons_zero, List.set_cons_succ]); (refine wpAnyH_take (i := 7) (v := ?_) rfl (by kernel_rfl) (by kernel_rfl) (by kernel_rfl) (fun _ _ _ h => h) (Or.inl ⟨by rfl, ?_⟩) (by assumption) ?_); rotate_left 1; (focus (intro w hSw; (try dsimp only at hSw); go_simp; (try with_reducible rfl))); (try simp only [Act.put, List.setIfInBounds_toArray, List.set_cons_zero, List.set_cons_succ]); (refine wpAnyH_take (i := 11) (v := ?_) rfl (by kernel_rfl) (by kernel_rfl) (by kernel_rfl) (fun _ _ _ h => h) (Or.inl ⟨by rfl, ?_⟩) (by assumption) ?_); rotate_left 1; (focus (intro w hSw; (try dsimp only at hSw); go_simp; (try with_reducible rfl))); (try simp only [Act.put, List.setIfInBounds_toArray, List.set_cons_zero, List.set_cons_succ])
    refine wpAnyH_ready (rs := [5]) (by kernel_rfl) (by simp) ?_; refine AllReadyH.cons rfl (fun K hK => ?_) AllReadyH.nil; go_simp; (go_at_call 88; refine (K1.out _ (h.ext (by repeat (first | exact Ext.refl _ | assumption | refine Ext.trans ?_ (by assumption) | refine Ext.drew ?_ | refine Ext.drewN ?_ _ | refine Ext.alloc ?_ _)))).mono ?_; rintro e wa ⟨ge, hge, rfl, oe, he1⟩; have ce := row_cell oe ht10; unfold negF at ce; have X1 : CoverAt wa w.heap.size x := (CoverAt.new w 28 x).ext (by repeat (first | exact Ext.refl _ | assumption | refine Ext.trans ?_ (by assumption) | refine Ext.drew ?_ | refine Ext.drewN ?_ _ | refine Ext.alloc ?_ _)); obtain ⟨p0, p1, p2, p3, p4, p5, p6, p7, p8⟩ := X1); (try go_wp2_with fail); refine hK.out _ _ ?_ (fun hHeld => ?_); (focus (((try dsimp only); go_split_ands; (repeat' apply And.intro) <;> first | assumption | exact Ext.cell1 he1 (by assumption) | (simp [*]; done) | (simp [*, go_sem, World.cell?_alloc_past]; done)))); clear hK K; (try simp only [Act.put, List.setIfInBounds_toArray, List.set_cons_zero, List.set_cons_succ])
    (refine wpAnyH_take (i := 8) (v := ?_) rfl (by kernel_rfl) (by kernel_rfl) (by kernel_rfl) (fun _ _ _ h => h) (Or.inl ⟨by rfl, ?_⟩) (by assumption) ?_); rotate_left 1; (focus (intro w hSw; (try dsimp only at hSw); go_simp; (try with_reducible rfl))); (try simp only [Act.put, List.setIfInBounds_toArray, List.set_cons_zero, List.set_cons_succ])
    refine wpAnyH_ready (rs := [9]) (by kernel_rfl) (by simp) ?_; refine AllReadyH.cons rfl (fun K hK => ?_) AllReadyH.nil; go_simp; skip; (try go_wp2_with fail); refine hK.out _ _ ?_ (fun hHeld => ?_); (focus (((try dsimp only); go_split_ands; (repeat' apply And.intro) <;> first | assumption | exact Ext.cell1 he1 (by assumption) | (simp [*]; done) | (simp [*, go_sem, World.cell?_alloc_past]; done)))); clear hK K; (try simp only [Act.put, List.setIfInBounds_toArray, List.set_cons_zero, List.set_cons_succ])
    refine wpAnyH_ready (rs := [12]) (by kernel_rfl) (by simp) ?_; refine AllReadyH.cons rfl (fun K hK => ?_) AllReadyH.nil; go_simp; (go_at_call 43; refine (C.out _).mono ?_; rintro e w' ⟨rfl, rfl⟩); (try go_wp2_with fail); refine hK.out _ _ ?_ (fun hHeld => ?_); (focus (((try dsimp only); go_split_ands; (repeat' apply And.intro) <;> first | assumption | exact Ext.cell1 he1 (by assumption) | (simp [*]; done) | (simp [*, go_sem, World.cell?_alloc_past]; done)))); clear hK K; (try simp only [Act.put, List.setIfInBounds_toArray, List.set_cons_zero, List.set_cons_succ])
    (refine wpAnyH_take (i := 13) (v := ?_) rfl (by kernel_rfl) (by kernel_rfl) (by kernel_rfl) (fun _ _ _ h => h) (Or.inl ⟨by rfl, ?_⟩) (by assumption) ?_); rotate_left 1; (focus (intro w hSw; (try dsimp only at hSw); go_simp; (try with_reducible rfl))); (try simp only [Act.put, List.setIfInBounds_toArray, List.set_cons_zero, List.set_cons_succ])
    refine wpAnyH_done (by kernel_rfl) ?_ _
    all_goals
      go_wp2_with (go_at_call 91; refine (K2.out _ (h.ext (by repeat (first | exact Ext.refl _ | assumption | refine Ext.trans ?_ (by assumption) | refine Ext.drew ?_ | refine Ext.drewN ?_ _ | refine Ext.alloc ?_ _)))).mono ?_; rintro e wb ⟨B, s, oc, rfl, ho, he2⟩)
      go_ret2
      exact ⟨B, s, oc, rfl, own_low ho (Ext.size (w := w) (by repeat (first | exact Ext.refl _ | assumption | refine Ext.trans ?_ (by assumption) | refine Ext.drew ?_ | refine Ext.drewN ?_ _ | refine Ext.alloc ?_ _))), (by repeat (first | exact Ext.refl _ | assumption | refine Ext.trans ?_ (by assumption) | refine Ext.drew ?_ | refine Ext.drewN ?_ _ | refine Ext.alloc ?_ _))⟩

set_option maxRecDepth 100000 in
set_option maxHeartbeats 1000000 in
theorem RouteOnI_any (A : Option Addr) (n c : Nat) (ms : List Mail) (x : Cover) (w : World) (h : MailL w A n ms) :
    Calls Try.prog 32 #[.slice A n c, .agg #[.int .i64 x.Id, .int .i64 x.Day, .int .i64 x.Zone, .int .i64 x.Grams, .int .i64 x.Paid, .int .i64 x.From, .int .i64 x.To, .int .i64 x.Leave, .int .i64 x.Arrive]] w (RowPost 3 1 (ints (routeR ms x)) (routeOk ms x) w) := by
  rcases chain2 (MailsOk ms) (cvOk x.Id x.Day x.Zone x.Grams x.Paid x.From x.To x.Leave x.Arrive) with h1 | ⟨h1, h2⟩ | ⟨h1, h2⟩
  iterate 2
    · have hok : routeOk ms x = false := by simp [routeOk, askV, cvGood, *]
      rw [show routeR ms x = [] by simp [routeR, hok], hok]
      clear hok
      go_enter Try.func32, Try.ntmps32
      go_wp2_with (first | (go_at_call 59; refine (isTimetable_any _ _ _ ms _ (h.ext (by repeat (first | exact Ext.refl _ | assumption | refine Ext.trans ?_ (by assumption) | refine Ext.drew ?_ | refine Ext.drewN ?_ _ | refine Ext.alloc ?_ _)))).mono ?_; rintro e wa ⟨rfl, he1⟩; have X1 := (CoverAt.new w _ x).ext he1; obtain ⟨p0, p1, p2, p3, p4, p5, p6, p7, p8⟩ := X1) | (go_at_call 45; refine (isCover_any _ _ _ _ _ _ _ _ _ _).mono ?_; rintro e wb ⟨rfl, he2⟩; obtain ⟨p0, p1, p2, p3, p4, p5, p6, p7, p8⟩ := ((CoverAt.new w _ x).ext he1).ext he2))
      go_ret2
      exact ⟨none, 0, 0, rfl, own_nil _ _ _ _, (by repeat (first | exact Ext.refl _ | assumption | refine Ext.trans ?_ (by assumption) | refine Ext.drew ?_ | refine Ext.drewN ?_ _ | refine Ext.alloc ?_ _))⟩
  · have ha : askV ms x = true := by simp [askV, cvGood, *]
    have HA := Lib.hid ha
    clear ha
    generalize hR : routeR ms x = R
    generalize hO : routeOk ms x = O
    have C := Lib.hid (fun wx (hx : MailL wx A n ms) => routeOn_any A n c ms x wx hx HA.out)
    rw [hR, hO] at C
    clear hR hO
    go_enter Try.func32, Try.ntmps32
    go_wp2_with (first | (go_at_call 59; refine (isTimetable_any _ _ _ ms _ (h.ext (by repeat (first | exact Ext.refl _ | assumption | refine Ext.trans ?_ (by assumption) | refine Ext.drew ?_ | refine Ext.drewN ?_ _ | refine Ext.alloc ?_ _)))).mono ?_; rintro e wa ⟨rfl, he1⟩; have X1 := (CoverAt.new w _ x).ext he1; obtain ⟨p0, p1, p2, p3, p4, p5, p6, p7, p8⟩ := X1) | (go_at_call 45; refine (isCover_any _ _ _ _ _ _ _ _ _ _).mono ?_; rintro e wb ⟨rfl, he2⟩; obtain ⟨p0, p1, p2, p3, p4, p5, p6, p7, p8⟩ := ((CoverAt.new w _ x).ext he1).ext he2) | (go_at_call 63; refine (C.out _ (h.ext (by repeat (first | exact Ext.refl _ | assumption | refine Ext.trans ?_ (by assumption) | refine Ext.drew ?_ | refine Ext.drewN ?_ _ | refine Ext.alloc ?_ _)))).mono ?_; rintro e wc ⟨B, s, oc, rfl, ho, he3⟩))
    go_ret2
    exact ⟨B, s, oc, rfl, own_low ho (by have := he1.size; have := he2.size; simp only [World.size_alloc] at *; omega), (by repeat (first | exact Ext.refl _ | assumption | refine Ext.trans ?_ (by assumption) | refine Ext.drew ?_ | refine Ext.drewN ?_ _ | refine Ext.alloc ?_ _))⟩

set_option maxRecDepth 100000 in
set_option maxHeartbeats 1000000 in
theorem l10Route_any (A : Option Addr) (n c : Nat) (ms : List Mail) (x : Cover) (w : World) (h : MailL w A n ms) (ha : askV ms x = true) :
    Calls Try.prog 62 #[.slice A n c, .agg #[.int .i64 x.Id, .int .i64 x.Day, .int .i64 x.Zone, .int .i64 x.Grams, .int .i64 x.Paid, .int .i64 x.From, .int .i64 x.To, .int .i64 x.Leave, .int .i64 x.Arrive]] w (RowPost 3 1 (ints (routeR ms x)) (routeOk ms x) w) := by
  have ha2 := ha
  simp only [askV, Bool.and_eq_true] at ha2
  obtain ⟨h1, h2⟩ := ha2
  obtain ⟨q1, q2, q3, q4, q5, q6, q7, q8⟩ := cvGood_all h2
  have hask : askE ms x.From x.Leave x.To = true := by simp only [askE, askM, h1, q1, q5, q2]; rfl
  have K1 := Lib.hid (fun wx (hx : MailL wx A n ms) => EarliestAtS_any A n c ms x.From x.Leave x.To wx hx)
  have K2 := Lib.hid (fun wx (hx : MailL wx A n ms) => BestRouteS_any A n c ms x.From x.Leave x.To wx hx)
  have hok := Lib.hid (show routeOk ms x = decide (times ms x.From x.Leave x.To.toNat ≤ x.Arrive) by unfold routeOk; rw [ha, Bool.true_and])
  have hR0 := Lib.hid (show routeR ms x = if routeOk ms x then bestV ms x.From x.Leave x.To else [] from rfl)
  have hb := Lib.hid (show bestR ms x.From x.Leave x.To = bestV ms x.From x.Leave x.To by simp [bestR, hask])
  obtain ⟨E, hE⟩ : ∃ E, times ms x.From x.Leave x.To.toNat = E := ⟨_, rfl⟩
  by_cases he : E = 10000
  · obtain ⟨z1, z2⟩ := earl_none (hE.trans he)
    rw [z1, z2] at K1
    have ho : routeOk ms x = false := by rw [hok.out, hE]; simp; omega
    rw [show routeR ms x = [] by rw [hR0.out, ho]; rfl, ho]
    clear z1 z2 ho hE he K2 hask ha h1 h2 q1 q2 q3 q4 q5
    go_enter Try.func62, Try.ntmps62
    go_wp2_with (go_at_call 89; refine (K1.out _ (h.ext (by repeat (first | exact Ext.refl _ | assumption | refine Ext.trans ?_ (by assumption) | refine Ext.drew ?_ | refine Ext.drewN ?_ _ | refine Ext.alloc ?_ _)))).mono ?_; rintro e wa ⟨rfl, he1⟩; obtain ⟨p0, p1, p2, p3, p4, p5, p6, p7, p8⟩ := (CoverAt.new w _ x).ext he1)
    go_ret2
    exact ⟨some ⟨_, 0, none⟩, 0, 0, rfl, own_low (own_empty wa _ _ _ (Nat.le_refl _)) (by have := he1.size; simp only [World.size_alloc] at this; omega), (by repeat (first | exact Ext.refl _ | assumption | refine Ext.trans ?_ (by assumption) | refine Ext.drew ?_ | refine Ext.drewN ?_ _ | refine Ext.alloc ?_ _))⟩
  · obtain ⟨z1, z2⟩ := earl_some hask (fun e => he (hE.symm.trans e))
    rw [z1, z2, hE] at K1
    rw [z2, hb.out] at K2
    by_cases hle : E ≤ x.Arrive
    · have ho : routeOk ms x = true := by rw [hok.out, hE]; simpa using hle
      rw [show routeR ms x = bestV ms x.From x.Leave x.To by rw [hR0.out, ho]; rfl, ho]
      have d1 : decide (x.Arrive < E) = false := by simp; omega
      generalize bestV ms x.From x.Leave x.To = R at *
      clear z1 z2 ho hE he hask ha h1 h2 q1 q2 q3 q4 q5 hb hR0
      go_enter Try.func62, Try.ntmps62
      go_wp2_with (first | (go_at_call 89; refine (K1.out _ (h.ext (by repeat (first | exact Ext.refl _ | assumption | refine Ext.trans ?_ (by assumption) | refine Ext.drew ?_ | refine Ext.drewN ?_ _ | refine Ext.alloc ?_ _)))).mono ?_; rintro e wa ⟨rfl, he1⟩; obtain ⟨p0, p1, p2, p3, p4, p5, p6, p7, p8⟩ := (CoverAt.new w _ x).ext he1) | (go_at_call 90; refine (K2.out _ (h.ext (by repeat (first | exact Ext.refl _ | assumption | refine Ext.trans ?_ (by assumption) | refine Ext.drew ?_ | refine Ext.drewN ?_ _ | refine Ext.alloc ?_ _)))).mono ?_; rintro e wb ⟨B, s, oc, rfl, ho, he2⟩))
      go_ret2
      exact ⟨B, s, oc, rfl, own_low ho (by have := he1.size; simp only [World.size_alloc] at this; omega), (by repeat (first | exact Ext.refl _ | assumption | refine Ext.trans ?_ (by assumption) | refine Ext.drew ?_ | refine Ext.drewN ?_ _ | refine Ext.alloc ?_ _))⟩
    · have ho : routeOk ms x = false := by rw [hok.out, hE]; simp; omega
      rw [show routeR ms x = [] by rw [hR0.out, ho]; rfl, ho]
      have d1 : decide (x.Arrive < E) = true := by simp; omega
      clear z1 z2 ho hE he K2 hask ha h1 h2 q1 q2 q3 q4 q5
      go_enter Try.func62, Try.ntmps62
      go_wp2_with (go_at_call 89; refine (K1.out _ (h.ext (by repeat (first | exact Ext.refl _ | assumption | refine Ext.trans ?_ (by assumption) | refine Ext.drew ?_ | refine Ext.drewN ?_ _ | refine Ext.alloc ?_ _)))).mono ?_; rintro e wa ⟨rfl, he1⟩; obtain ⟨p0, p1, p2, p3, p4, p5, p6, p7, p8⟩ := (CoverAt.new w _ x).ext he1)
      go_ret2
      exact ⟨some ⟨_, 0, none⟩, 0, 0, rfl, own_low (own_empty wa _ _ _ (Nat.le_refl _)) (by have := he1.size; simp only [World.size_alloc] at this; omega), (by repeat (first | exact Ext.refl _ | assumption | refine Ext.trans ?_ (by assumption) | refine Ext.drew ?_ | refine Ext.drewN ?_ _ | refine Ext.alloc ?_ _))⟩

set_option maxRecDepth 100000 in
set_option maxHeartbeats 1000000 in
theorem RouteOnS_any (A : Option Addr) (n c : Nat) (ms : List Mail) (x : Cover) (w : World) (h : MailL w A n ms) :
    Calls Try.prog 31 #[.slice A n c, .agg #[.int .i64 x.Id, .int .i64 x.Day, .int .i64 x.Zone, .int .i64 x.Grams, .int .i64 x.Paid, .int .i64 x.From, .int .i64 x.To, .int .i64 x.Leave, .int .i64 x.Arrive]] w (RowPost 3 1 (ints (routeR ms x)) (routeOk ms x) w) := by
  rcases chain2 (MailsOk ms) (cvOk x.Id x.Day x.Zone x.Grams x.Paid x.From x.To x.Leave x.Arrive) with h1 | ⟨h1, h2⟩ | ⟨h1, h2⟩
  · have hok : routeOk ms x = false := by simp [routeOk, askV, cvGood, *]
    rw [show routeR ms x = [] by simp [routeR, hok], hok]
    clear hok
    go_enter Try.func31, Try.ntmps31
    go_wp2_with (first | (go_at_call 56; refine (l9Good_any _ _ _ ms _ (h.ext (by repeat (first | exact Ext.refl _ | assumption | refine Ext.trans ?_ (by assumption) | refine Ext.drew ?_ | refine Ext.drewN ?_ _ | refine Ext.alloc ?_ _)))).mono ?_; rintro e wa ⟨rfl, he1⟩; have X1 := (CoverAt.new w _ x).ext he1; obtain ⟨p0, p1, p2, p3, p4, p5, p6, p7, p8⟩ := X1) | (go_at_call 44; refine (l10One_any _ _ _ _ _ _ _ _ _ _).mono ?_; rintro e wb ⟨rfl, he2⟩; obtain ⟨p0, p1, p2, p3, p4, p5, p6, p7, p8⟩ := ((CoverAt.new w _ x).ext he1).ext he2))
    go_ret2
    exact ⟨some ⟨_, 0, none⟩, 0, 0, rfl, own_low (own_empty wa _ _ _ (Nat.le_refl _)) (by have := he1.size; simp only [World.size_alloc] at this; omega), (by repeat (first | exact Ext.refl _ | assumption | refine Ext.trans ?_ (by assumption) | refine Ext.drew ?_ | refine Ext.drewN ?_ _ | refine Ext.alloc ?_ _))⟩
  · have hok : routeOk ms x = false := by simp [routeOk, askV, cvGood, *]
    rw [show routeR ms x = [] by simp [routeR, hok], hok]
    clear hok
    go_enter Try.func31, Try.ntmps31
    go_wp2_with (first | (go_at_call 56; refine (l9Good_any _ _ _ ms _ (h.ext (by repeat (first | exact Ext.refl _ | assumption | refine Ext.trans ?_ (by assumption) | refine Ext.drew ?_ | refine Ext.drewN ?_ _ | refine Ext.alloc ?_ _)))).mono ?_; rintro e wa ⟨rfl, he1⟩; have X1 := (CoverAt.new w _ x).ext he1; obtain ⟨p0, p1, p2, p3, p4, p5, p6, p7, p8⟩ := X1) | (go_at_call 44; refine (l10One_any _ _ _ _ _ _ _ _ _ _).mono ?_; rintro e wb ⟨rfl, he2⟩; obtain ⟨p0, p1, p2, p3, p4, p5, p6, p7, p8⟩ := ((CoverAt.new w _ x).ext he1).ext he2))
    go_ret2
    exact ⟨some ⟨_, 0, none⟩, 0, 0, rfl, own_low (own_empty wb _ _ _ (Nat.le_refl _)) (by have := he1.size; have := he2.size; simp only [World.size_alloc] at *; omega), (by repeat (first | exact Ext.refl _ | assumption | refine Ext.trans ?_ (by assumption) | refine Ext.drew ?_ | refine Ext.drewN ?_ _ | refine Ext.alloc ?_ _))⟩
  · have ha : askV ms x = true := by simp [askV, cvGood, *]
    have HA := Lib.hid ha
    clear ha
    generalize hR : routeR ms x = R
    generalize hO : routeOk ms x = O
    have C := Lib.hid (fun wx (hx : MailL wx A n ms) => l10Route_any A n c ms x wx hx HA.out)
    rw [hR, hO] at C
    clear hR hO
    go_enter Try.func31, Try.ntmps31
    go_wp2_with (first | (go_at_call 56; refine (l9Good_any _ _ _ ms _ (h.ext (by repeat (first | exact Ext.refl _ | assumption | refine Ext.trans ?_ (by assumption) | refine Ext.drew ?_ | refine Ext.drewN ?_ _ | refine Ext.alloc ?_ _)))).mono ?_; rintro e wa ⟨rfl, he1⟩; have X1 := (CoverAt.new w _ x).ext he1; obtain ⟨p0, p1, p2, p3, p4, p5, p6, p7, p8⟩ := X1) | (go_at_call 44; refine (l10One_any _ _ _ _ _ _ _ _ _ _).mono ?_; rintro e wb ⟨rfl, he2⟩; obtain ⟨p0, p1, p2, p3, p4, p5, p6, p7, p8⟩ := ((CoverAt.new w _ x).ext he1).ext he2) | (go_at_call 62; refine (C.out _ (h.ext (by repeat (first | exact Ext.refl _ | assumption | refine Ext.trans ?_ (by assumption) | refine Ext.drew ?_ | refine Ext.drewN ?_ _ | refine Ext.alloc ?_ _)))).mono ?_; rintro e wc ⟨B, s, oc, rfl, ho, he3⟩))
    go_ret2
    exact ⟨B, s, oc, rfl, own_low ho (by have := he1.size; have := he2.size; simp only [World.size_alloc] at *; omega), (by repeat (first | exact Ext.refl _ | assumption | refine Ext.trans ?_ (by assumption) | refine Ext.drew ?_ | refine Ext.drewN ?_ _ | refine Ext.alloc ?_ _))⟩
end Go.Proofs.Ytopjomkjdmcljaa
