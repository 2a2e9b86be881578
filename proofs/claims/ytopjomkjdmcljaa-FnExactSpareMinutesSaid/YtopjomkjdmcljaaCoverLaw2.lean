/- The law of SpareMinutes (made by wip/covers3.py). -/
import Derived.Test.YtopjomkjdmcljaaCoverR
import Derived.Deep.RegionHeld3
namespace Go.Proofs.Ytopjomkjdmcljaa
open Go.RowKit
set_option linter.unusedVariables false
set_option linter.unusedSimpArgs false
attribute [local go_sem] ExtOf.cell

set_option maxRecDepth 100000 in
set_option maxHeartbeats 1000000 in
theorem FnExactSpareMinutes_any (A : Option Addr) (n c : Nat) (xs : List Mail) (x : Cover) (w : World) (hn : xs.length = n) (hm : n ≤ maxLen) (hw : ∀ x ∈ xs, x.Wf) (hr : Rd w A n 4 (xs.flatMap Mail.cs)) :
    Calls Try.prog 7 #[.slice A n c, .agg #[.int .i64 x.Id, .int .i64 x.Day, .int .i64 x.Zone, .int .i64 x.Grams, .int .i64 x.Paid, .int .i64 x.From, .int .i64 x.To, .int .i64 x.Leave, .int .i64 x.Arrive]] w fun e w' => e = .returned (.bool true) ∧ Ext w w' := by
  have H := Lib.hid hn
  have HW := Lib.hid hw
  have HR := Lib.hid hr
  clear hn hw hr
  go_enter Try.func7, Try.ntmps7
  go_wp2_with fail
  refine (szMailS_any _ _ _ xs _ _ (by omega) (by omega) H.out hm HW.out (HR.out.ext (by repeat (first | exact Ext.refl _ | assumption | refine Ext.trans ?_ (by assumption) | refine Ext.drew ?_ | refine Ext.drewN ?_ _ | refine Ext.alloc ?_ _)))).mono ?_
  rintro e w1 ⟨r, rfl, r1, r2, r3, e1⟩
  by_cases hr0 : r < 0
  · go_wp2
    go_ret
    exact ⟨rfl, (by repeat (first | exact Ext.refl _ | assumption | refine Ext.trans ?_ (by assumption) | refine Ext.drew ?_ | refine Ext.drewN ?_ _ | refine Ext.alloc ?_ _))⟩
  have hn1 : (n : Int) ≤ 1048576 := r3 (by omega)
  have p0 : w1.cell? ⟨w.heap.size, 0, none⟩ = some (.int .i64 x.Id) := by rw [e1.cells _ _ (by simp)]; exact new_cell _ _ _ 0 _ rfl
  have p1 : w1.cell? ⟨w.heap.size, 1, none⟩ = some (.int .i64 x.Day) := by rw [e1.cells _ _ (by simp)]; exact new_cell _ _ _ 1 _ rfl
  have p2 : w1.cell? ⟨w.heap.size, 2, none⟩ = some (.int .i64 x.Zone) := by rw [e1.cells _ _ (by simp)]; exact new_cell _ _ _ 2 _ rfl
  have p3 : w1.cell? ⟨w.heap.size, 3, none⟩ = some (.int .i64 x.Grams) := by rw [e1.cells _ _ (by simp)]; exact new_cell _ _ _ 3 _ rfl
  have p4 : w1.cell? ⟨w.heap.size, 4, none⟩ = some (.int .i64 x.Paid) := by rw [e1.cells _ _ (by simp)]; exact new_cell _ _ _ 4 _ rfl
  have p5 : w1.cell? ⟨w.heap.size, 5, none⟩ = some (.int .i64 x.From) := by rw [e1.cells _ _ (by simp)]; exact new_cell _ _ _ 5 _ rfl
  have p6 : w1.cell? ⟨w.heap.size, 6, none⟩ = some (.int .i64 x.To) := by rw [e1.cells _ _ (by simp)]; exact new_cell _ _ _ 6 _ rfl
  have p7 : w1.cell? ⟨w.heap.size, 7, none⟩ = some (.int .i64 x.Leave) := by rw [e1.cells _ _ (by simp)]; exact new_cell _ _ _ 7 _ rfl
  have p8 : w1.cell? ⟨w.heap.size, 8, none⟩ = some (.int .i64 x.Arrive) := by rw [e1.cells _ _ (by simp)]; exact new_cell _ _ _ 8 _ rfl
  go_wp2_with fail
  go_region_held3 (fun w' => w'.cell? ⟨w.heap.size, 0, none⟩ = some (.int .i64 x.Id) ∧ w'.cell? ⟨w.heap.size, 1, none⟩ = some (.int .i64 x.Day) ∧ w'.cell? ⟨w.heap.size, 2, none⟩ = some (.int .i64 x.Zone) ∧ w'.cell? ⟨w.heap.size, 3, none⟩ = some (.int .i64 x.Grams) ∧ w'.cell? ⟨w.heap.size, 4, none⟩ = some (.int .i64 x.Paid) ∧ w'.cell? ⟨w.heap.size, 5, none⟩ = some (.int .i64 x.From) ∧ w'.cell? ⟨w.heap.size, 6, none⟩ = some (.int .i64 x.To) ∧ w'.cell? ⟨w.heap.size, 7, none⟩ = some (.int .i64 x.Leave) ∧ w'.cell? ⟨w.heap.size, 8, none⟩ = some (.int .i64 x.Arrive)) (((try dsimp only); go_split_ands; (repeat' apply And.intro) <;> first | assumption | exact Ext.cell1 he1 (by assumption) | (simp [*]; done) | (simp [*, go_sem, World.cell?_alloc_past]; done))) (first
    | (go_at_call 28; refine (toMailS_any _ _ _ xs _ H.out (by omega) (HR.out.ext (by repeat (first | exact Ext.refl _ | assumption | refine Ext.trans ?_ (by assumption) | refine Ext.drew ?_ | refine Ext.drewN ?_ _ | refine Ext.alloc ?_ _)))).mono ?_; rintro e wt ⟨rfl, ot, he1⟩)
    | (go_at_call 14; refine (toCover_any _ _ _ _ _ _ _ _ _ _).mono ?_; rintro e wa ⟨rfl, he1⟩; have ot2 := he1.own ot)
    | (go_at_call 27; refine (SpareMinutesS_any _ n n xs x _ ⟨H.out, by omega, HW.out, Rd.own (by first | exact ot2 | exact Ext.own (by repeat (first | exact Ext.refl _ | assumption | refine Ext.trans ?_ (by assumption) | refine Ext.drew ?_ | refine Ext.drewN ?_ _ | refine Ext.alloc ?_ _)) ot2)⟩).mono ?_; rintro e wd ⟨rfl, he1⟩))
  all_goals
    go_wp2_with fail
    refine (toMailS_any _ _ _ xs _ H.out (by omega) (HR.out.ext (by repeat (first | exact Ext.refl _ | assumption | refine Ext.trans ?_ (by assumption) | refine Ext.drew ?_ | refine Ext.drewN ?_ _ | refine Ext.alloc ?_ _)))).mono ?_
    rintro e w4 ⟨rfl, o4, he1⟩
    have e14 : Ext w1 w4 := (by repeat (first | exact Ext.refl _ | assumption | refine Ext.trans ?_ (by assumption) | refine Ext.drew ?_ | refine Ext.drewN ?_ _ | refine Ext.alloc ?_ _))
    have q0 := e14.cell1 p0
    have q1 := e14.cell1 p1
    have q2 := e14.cell1 p2
    have q3 := e14.cell1 p3
    have q4 := e14.cell1 p4
    have q5 := e14.cell1 p5
    have q6 := e14.cell1 p6
    have q7 := e14.cell1 p7
    have q8 := e14.cell1 p8
    go_wp2_with (first
      | (go_at_call 14; refine (toCover_any _ _ _ _ _ _ _ _ _ _).mono ?_; rintro e wa ⟨rfl, he1⟩)
      | (go_at_call 29; refine (SpareMinutesI_any _ n n xs x _ ⟨H.out, by omega, HW.out, Rd.own (Ext.own (by repeat (first | exact Ext.refl _ | assumption | refine Ext.trans ?_ (by assumption) | refine Ext.drew ?_ | refine Ext.drewN ?_ _ | refine Ext.alloc ?_ _)) o4)⟩).mono ?_; rintro e wd ⟨rfl, he1⟩)
      | (go_at_call 28; refine (toMailS_any _ _ _ xs _ H.out (by omega) (HR.out.ext (by repeat (first | exact Ext.refl _ | assumption | refine Ext.trans ?_ (by assumption) | refine Ext.drew ?_ | refine Ext.drewN ?_ _ | refine Ext.alloc ?_ _)))).mono ?_; rintro e w6 ⟨rfl, o6, he1⟩)
      | (go_at_call 30; refine (eqMailS_same _ _ _ _ _ xs _ H.out (by omega) (Rd.own (Ext.own (by repeat (first | exact Ext.refl _ | assumption | refine Ext.trans ?_ (by assumption) | refine Ext.drew ?_ | refine Ext.drewN ?_ _ | refine Ext.alloc ?_ _)) o4)) (Rd.own o6)).mono ?_; rintro e w7 ⟨rfl, he1⟩))
    go_ret
    exact ⟨rfl, (by repeat (first | exact Ext.refl _ | assumption | refine Ext.trans ?_ (by assumption) | refine Ext.drew ?_ | refine Ext.drewN ?_ _ | refine Ext.alloc ?_ _))⟩

end Go.Proofs.Ytopjomkjdmcljaa
