/- The law of FaultOf. -/
import Derived.Test.YtopjomkjdmcljaaCoverF
import Derived.Deep.RegionHeld3
namespace Go.Proofs.Ytopjomkjdmcljaa
open Go.RowKit
set_option linter.unusedVariables false
set_option linter.unusedSimpArgs false
attribute [local go_sem] ExtOf.cell

set_option maxRecDepth 100000 in
set_option maxHeartbeats 2000000 in
theorem FnExactFaultOf_any (A : Option Addr) (n c : Nat) (rs : List Rate) (B : Option Addr) (n2 c2 : Nat) (ms : List Mail) (x : Cover) (w : World) (hn : rs.length = n) (hm : n ≤ maxLen) (hw : ∀ x ∈ rs, x.Wf) (hr : Rd w A n 5 (rs.flatMap Rate.cs)) (gn : ms.length = n2) (gm : n2 ≤ maxLen) (gw : ∀ x ∈ ms, x.Wf) (gr : Rd w B n2 4 (ms.flatMap Mail.cs)) :
    Calls Try.prog 9 #[.slice A n c, .slice B n2 c2, .agg #[.int .i64 x.Id, .int .i64 x.Day, .int .i64 x.Zone, .int .i64 x.Grams, .int .i64 x.Paid, .int .i64 x.From, .int .i64 x.To, .int .i64 x.Leave, .int .i64 x.Arrive]] w fun e w' => e = .returned (.bool true) ∧ Ext w w' := by
  have H := Lib.hid hn
  have HW := Lib.hid hw
  have HR := Lib.hid hr
  have G := Lib.hid gn
  have GW := Lib.hid gw
  have GR := Lib.hid gr
  clear hn hw hr gn gw gr
  go_enter Try.func9, Try.ntmps9
  go_wp2_with fail
  refine (szRateS_any _ _ _ rs _ _ (by omega) (by omega) H.out hm HW.out (HR.out.ext (by repeat (first | exact Ext.refl _ | assumption | refine Ext.trans ?_ (by assumption) | refine Ext.drew ?_ | refine Ext.drewN ?_ _ | refine Ext.alloc ?_ _)))).mono ?_
  rintro e w1 ⟨r, rfl, r1, r2, r3, e1⟩
  by_cases hr0 : r < 0
  · go_wp2
    go_ret
    exact ⟨rfl, (by repeat (first | exact Ext.refl _ | assumption | refine Ext.trans ?_ (by assumption) | refine Ext.drew ?_ | refine Ext.drewN ?_ _ | refine Ext.alloc ?_ _))⟩
  have hn1 : (n : Int) ≤ 1048576 := r3 (by omega)
  go_wp2_with fail
  refine (szMailS_any _ _ _ ms _ _ (by omega) (by omega) G.out gm GW.out (GR.out.ext (by repeat (first | exact Ext.refl _ | assumption | refine Ext.trans ?_ (by assumption) | refine Ext.drew ?_ | refine Ext.drewN ?_ _ | refine Ext.alloc ?_ _)))).mono ?_
  rintro e w2 ⟨s, rfl, s1, s2, s3, e2⟩
  by_cases hs0 : s < 0
  · go_wp2
    go_ret
    exact ⟨rfl, (by repeat (first | exact Ext.refl _ | assumption | refine Ext.trans ?_ (by assumption) | refine Ext.drew ?_ | refine Ext.drewN ?_ _ | refine Ext.alloc ?_ _))⟩
  have hn2 : (n2 : Int) ≤ 1048576 := by have := s3 (by omega); omega
  obtain ⟨p0, p1, p2, p3, p4, p5, p6, p7, p8⟩ := ((CoverAt.new w _ x).ext e1).ext e2
  go_wp2_with fail
  go_region_held3 (fun w' => w'.cell? ⟨w.heap.size, 0, none⟩ = some (.int .i64 x.Id) ∧ w'.cell? ⟨w.heap.size, 1, none⟩ = some (.int .i64 x.Day) ∧ w'.cell? ⟨w.heap.size, 2, none⟩ = some (.int .i64 x.Zone) ∧ w'.cell? ⟨w.heap.size, 3, none⟩ = some (.int .i64 x.Grams) ∧ w'.cell? ⟨w.heap.size, 4, none⟩ = some (.int .i64 x.Paid) ∧ w'.cell? ⟨w.heap.size, 5, none⟩ = some (.int .i64 x.From) ∧ w'.cell? ⟨w.heap.size, 6, none⟩ = some (.int .i64 x.To) ∧ w'.cell? ⟨w.heap.size, 7, none⟩ = some (.int .i64 x.Leave) ∧ w'.cell? ⟨w.heap.size, 8, none⟩ = some (.int .i64 x.Arrive)) (((try dsimp only); go_split_ands; (repeat' apply And.intro) <;> first | assumption | exact Ext.cell1 he1 (by assumption) | (simp [*]; done) | (simp [*, go_sem, World.cell?_alloc_past]; done))) (first
    | (go_at_call 23; refine (toRateS_any _ _ _ rs _ H.out (by omega) (HR.out.ext (by repeat (first | exact Ext.refl _ | assumption | refine Ext.trans ?_ (by assumption) | refine Ext.drew ?_ | refine Ext.drewN ?_ _ | refine Ext.alloc ?_ _)))).mono ?_; rintro e wt ⟨rfl, ot, he1⟩)
    | (go_at_call 28; refine (toMailS_any _ _ _ ms _ G.out (by omega) (GR.out.ext (by repeat (first | exact Ext.refl _ | assumption | refine Ext.trans ?_ (by assumption) | refine Ext.drew ?_ | refine Ext.drewN ?_ _ | refine Ext.alloc ?_ _)))).mono ?_; rintro e wu ⟨rfl, ou, he1⟩; have ot1 := he1.own ot)
    | (go_at_call 14; refine (toCover_any _ _ _ _ _ _ _ _ _ _).mono ?_; rintro e wa ⟨rfl, he1⟩; have ot2 := he1.own ot1; have ou2 := he1.own ou)
    | (go_at_call 37; refine (FaultOfS_any _ n n rs _ n2 n2 ms x _ ⟨H.out, by omega, HW.out, Rd.own (by first | exact ot2 | exact Ext.own (by repeat (first | exact Ext.refl _ | assumption | refine Ext.trans ?_ (by assumption) | refine Ext.drew ?_ | refine Ext.drewN ?_ _ | refine Ext.alloc ?_ _)) ot2)⟩ ⟨G.out, by omega, GW.out, Rd.own (by first | exact ou2 | exact Ext.own (by repeat (first | exact Ext.refl _ | assumption | refine Ext.trans ?_ (by assumption) | refine Ext.drew ?_ | refine Ext.drewN ?_ _ | refine Ext.alloc ?_ _)) ou2)⟩).mono ?_; rintro e wd ⟨rfl, he1⟩))
  all_goals
    go_wp2_with fail
    refine (toRateS_any _ _ _ rs _ H.out (by omega) (HR.out.ext (by repeat (first | exact Ext.refl _ | assumption | refine Ext.trans ?_ (by assumption) | refine Ext.drew ?_ | refine Ext.drewN ?_ _ | refine Ext.alloc ?_ _)))).mono ?_
    rintro e w4 ⟨rfl, o4, he1⟩
    go_wp2_with fail
    refine (toMailS_any _ _ _ ms _ G.out (by omega) (GR.out.ext (by repeat (first | exact Ext.refl _ | assumption | refine Ext.trans ?_ (by assumption) | refine Ext.drew ?_ | refine Ext.drewN ?_ _ | refine Ext.alloc ?_ _)))).mono ?_
    rintro e w5 ⟨rfl, o5, he1⟩
    have e14 : Ext w2 w5 := (by repeat (first | exact Ext.refl _ | assumption | refine Ext.trans ?_ (by assumption) | refine Ext.drew ?_ | refine Ext.drewN ?_ _ | refine Ext.alloc ?_ _))
    obtain ⟨q0, q1, q2, q3, q4, q5, q6, q7, q8⟩ := (((CoverAt.new w _ x).ext e1).ext e2).ext e14
    go_wp2_with (first | (go_at_call 14; refine (toCover_any _ _ _ _ _ _ _ _ _ _).mono ?_; rintro e wa ⟨rfl, he1⟩) | (go_at_call 38; refine (FaultOfI_any _ n n rs _ n2 n2 ms x _ ⟨H.out, by omega, HW.out, Rd.own (Ext.own (by repeat (first | exact Ext.refl _ | assumption | refine Ext.trans ?_ (by assumption) | refine Ext.drew ?_ | refine Ext.drewN ?_ _ | refine Ext.alloc ?_ _)) o4)⟩ ⟨G.out, by omega, GW.out, Rd.own (Ext.own (by repeat (first | exact Ext.refl _ | assumption | refine Ext.trans ?_ (by assumption) | refine Ext.drew ?_ | refine Ext.drewN ?_ _ | refine Ext.alloc ?_ _)) o5)⟩).mono ?_; rintro e wd ⟨rfl, he1⟩) | (go_at_call 23; refine (toRateS_any _ _ _ rs _ H.out (by omega) (HR.out.ext (by repeat (first | exact Ext.refl _ | assumption | refine Ext.trans ?_ (by assumption) | refine Ext.drew ?_ | refine Ext.drewN ?_ _ | refine Ext.alloc ?_ _)))).mono ?_; rintro e w6 ⟨rfl, o6, he1⟩) | (go_at_call 25; refine (eqRateS_same _ _ _ _ _ rs _ H.out (by omega) (Rd.own (Ext.own (by repeat (first | exact Ext.refl _ | assumption | refine Ext.trans ?_ (by assumption) | refine Ext.drew ?_ | refine Ext.drewN ?_ _ | refine Ext.alloc ?_ _)) o4)) (Rd.own o6)).mono ?_; rintro e w7 ⟨rfl, he1⟩) | (go_at_call 28; refine (toMailS_any _ _ _ ms _ G.out (by omega) (GR.out.ext (by repeat (first | exact Ext.refl _ | assumption | refine Ext.trans ?_ (by assumption) | refine Ext.drew ?_ | refine Ext.drewN ?_ _ | refine Ext.alloc ?_ _)))).mono ?_; rintro e w8 ⟨rfl, o8, he1⟩) | (go_at_call 30; refine (eqMailS_same _ _ _ _ _ ms _ G.out (by omega) (Rd.own (Ext.own (by repeat (first | exact Ext.refl _ | assumption | refine Ext.trans ?_ (by assumption) | refine Ext.drew ?_ | refine Ext.drewN ?_ _ | refine Ext.alloc ?_ _)) o5)) (Rd.own o8)).mono ?_; rintro e w9 ⟨rfl, he1⟩))
    go_ret
    exact ⟨rfl, (by repeat (first | exact Ext.refl _ | assumption | refine Ext.trans ?_ (by assumption) | refine Ext.drew ?_ | refine Ext.drewN ?_ _ | refine Ext.alloc ?_ _))⟩
end Go.Proofs.Ytopjomkjdmcljaa
