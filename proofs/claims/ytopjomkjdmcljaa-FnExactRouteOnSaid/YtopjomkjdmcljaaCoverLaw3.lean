/- The law of RouteOn. -/
import Derived.Test.YtopjomkjdmcljaaCoverR
import Derived.Test.YtopjomkjdmcljaaMailM
import Derived.Deep.RegionHeld3
namespace Go.Proofs.Ytopjomkjdmcljaa
open Go.RowKit
set_option linter.unusedVariables false
set_option linter.unusedSimpArgs false
attribute [local go_sem] ExtOf.cell

set_option maxRecDepth 100000 in
set_option maxHeartbeats 2000000 in
theorem FnExactRouteOn_any (A : Option Addr) (n c : Nat) (xs : List Mail) (x : Cover) (w : World) (hn : xs.length = n) (hm : n ≤ maxLen) (hw : ∀ x ∈ xs, x.Wf) (hr : Rd w A n 4 (xs.flatMap Mail.cs)) :
    Calls Try.prog 8 #[.slice A n c, .agg #[.int .i64 x.Id, .int .i64 x.Day, .int .i64 x.Zone, .int .i64 x.Grams, .int .i64 x.Paid, .int .i64 x.From, .int .i64 x.To, .int .i64 x.Leave, .int .i64 x.Arrive]] w fun e w' => e = .returned (.bool true) ∧ Ext w w' := by
  have H := Lib.hid hn
  have HW := Lib.hid hw
  have X0 := Lib.hid (CoverAt.new w 26 x)
  have eW := (Ext.refl w).alloc (.cells #[.int .i64 x.Id, .int .i64 x.Day, .int .i64 x.Zone, .int .i64 x.Grams, .int .i64 x.Paid, .int .i64 x.From, .int .i64 x.To, .int .i64 x.Leave, .int .i64 x.Arrive] 26)
  have HR := Lib.hid (hr.ext eW)
  have zb : w.heap.size < (w.alloc (.cells #[.int .i64 x.Id, .int .i64 x.Day, .int .i64 x.Zone, .int .i64 x.Grams, .int .i64 x.Paid, .int .i64 x.From, .int .i64 x.To, .int .i64 x.Leave, .int .i64 x.Arrive] 26)).heap.size := by simp
  clear hn hw hr
  go_enter Try.func8, Try.ntmps8
  go_wp2_with fail
  generalize hwb : w.alloc (.cells #[.int .i64 x.Id, .int .i64 x.Day, .int .i64 x.Zone, .int .i64 x.Grams, .int .i64 x.Paid, .int .i64 x.From, .int .i64 x.To, .int .i64 x.Leave, .int .i64 x.Arrive] 26) = wb at *
  clear hwb
  refine (szMailS_any _ _ _ xs _ _ (by omega) (by omega) H.out hm HW.out HR.out).mono ?_
  rintro e w1 ⟨r, rfl, r1, r2, r3, e1⟩
  by_cases hr0 : r < 0
  · go_wp2
    go_ret
    exact ⟨rfl, eW.trans e1⟩
  have hn1 : (n : Int) ≤ 1048576 := r3 (by omega)
  have L1 := Lib.hid (show MailL w1 A n xs from ⟨H.out, by omega, HW.out, HR.out.ext e1⟩)
  have hCS : (routeR xs x).length ≤ 10000 := routeR_len
  generalize hcs : routeR xs x = CS at *
  have HCS := Lib.hid hcs
  clear hcs
  obtain ⟨p0, p1, p2, p3, p4, p5, p6, p7, p8⟩ := X0.out.ext e1
  go_wp2_with fail
  go_region_held3 (fun w' => w'.cell? ⟨w.heap.size, 0, none⟩ = some (.int .i64 x.Id) ∧ w'.cell? ⟨w.heap.size, 1, none⟩ = some (.int .i64 x.Day) ∧ w'.cell? ⟨w.heap.size, 2, none⟩ = some (.int .i64 x.Zone) ∧ w'.cell? ⟨w.heap.size, 3, none⟩ = some (.int .i64 x.Grams) ∧ w'.cell? ⟨w.heap.size, 4, none⟩ = some (.int .i64 x.Paid) ∧ w'.cell? ⟨w.heap.size, 5, none⟩ = some (.int .i64 x.From) ∧ w'.cell? ⟨w.heap.size, 6, none⟩ = some (.int .i64 x.To) ∧ w'.cell? ⟨w.heap.size, 7, none⟩ = some (.int .i64 x.Leave) ∧ w'.cell? ⟨w.heap.size, 8, none⟩ = some (.int .i64 x.Arrive)) (((try dsimp only); go_split_ands; (repeat' apply And.intro) <;> first | assumption | exact Ext.cell1 he1 (by assumption) | (simp [*]; done) | (simp [*, go_sem, World.cell?_alloc_past]; done))) (first
    | (go_at_call 28; refine (toMailS_any _ _ _ xs _ H.out (by omega) (L1.out.ext (by repeat (first | exact Ext.refl _ | assumption | refine Ext.trans ?_ (by assumption) | refine Ext.drew ?_ | refine Ext.drewN ?_ _ | refine Ext.alloc ?_ _))).rd).mono ?_; rintro e wt ⟨rfl, ot, he1⟩)
    | (go_at_call 14; refine (toCover_any _ _ _ _ _ _ _ _ _ _).mono ?_; rintro e wa ⟨rfl, he1⟩; have ot2 := he1.own ot)
    | (go_at_call 31; refine (RouteOnS_any _ n n xs x _ ⟨H.out, by omega, HW.out, Rd.own (by first | exact ot2 | exact Ext.own (by repeat (first | exact Ext.refl _ | assumption | refine Ext.trans ?_ (by assumption) | refine Ext.drew ?_ | refine Ext.drewN ?_ _ | refine Ext.alloc ?_ _)) ot2)⟩).mono ?_; rintro e w3 ⟨A3, m3, c3, rfl, o3, he1⟩))
  all_goals
    have e13 : Ext w1 w3 := (by repeat (first | exact Ext.refl _ | assumption | refine Ext.trans ?_ (by assumption) | refine Ext.drew ?_ | refine Ext.drewN ?_ _ | refine Ext.alloc ?_ _))
    rw [HCS.out] at o3
    have hm3 : m3 = CS.length := by have := o3.1; rw [ints_length] at this; omega
    subst hm3
    have O3 := Lib.hid o3
    clear o3
    have B3 := Lib.hid (fun k hk => (O3.out.lt k hk).2)
    go_wp2_with fail
    refine (toMailS_any _ _ _ xs _ H.out (by omega) (L1.out.ext e13).rd).mono ?_
    rintro e w4 ⟨rfl, o4, e4⟩
    have L4 := Lib.hid (show MailL w4 _ n xs from ⟨H.out, by omega, HW.out, Rd.own o4⟩)
    have O4 := Lib.hid o4
    clear o4
    have z4 : w3.heap.size < w4.heap.size := (O4.out.lt _ rfl).2
    obtain ⟨p0, p1, p2, p3, p4, p5, p6, p7, p8⟩ := X0.out.ext (e1.trans (e13.trans e4))
    go_wp2_with fail
    refine (toCover_any _ _ _ _ _ _ _ _ _ _).mono ?_
    rintro e w4b ⟨rfl, e4b⟩
    have e4c : Ext w4 w4b := (by repeat (first | exact Ext.refl _ | assumption | refine Ext.trans ?_ (by assumption) | refine Ext.drew ?_ | refine Ext.drewN ?_ _ | refine Ext.alloc ?_ _))
    go_wp2_with fail
    refine (RouteOnI_any _ n n xs x _ (L4.out.ext e4c)).mono ?_
    rintro e w5 ⟨A5, m5, c5, rfl, o5, e5b⟩
    rw [HCS.out] at o5
    have hm5 : m5 = CS.length := by have := o5.1; rw [ints_length] at this; omega
    subst hm5
    have O5 := Lib.hid o5
    clear o5
    have e5 : Ext w4 w5 := e4c.trans e5b
    have z5 : w4.heap.size ≤ w4b.heap.size := e4c.size
    have B5 := Lib.hid (fun k hk => (O5.out.lt k hk).1)
    go_wp2_with fail
    refine (eqIntS_same _ _ _ _ _ CS _ (by omega) (Rd.own O5.out) (Rd.own (e5.own (e4.own O3.out)))).mono ?_
    rintro e w6 ⟨rfl, e6⟩
    go_wp2_with fail
    refine (toMailS_any _ _ _ xs _ H.out (by omega) (L1.out.ext (e13.trans (e4.trans (e5.trans e6)))).rd).mono ?_
    rintro e w7 ⟨rfl, o7, e7⟩
    have L7 := Lib.hid (show MailL w7 _ n xs from ⟨H.out, by omega, HW.out, Rd.own o7⟩)
    clear o7
    go_wp2_with fail
    refine (eqMailS_same _ _ _ _ _ xs _ H.out (by omega) (L4.out.ext (e5.trans (e6.trans e7))).rd L7.out.rd).mono ?_
    rintro e w8 ⟨rfl, e8⟩
    have E8 := Lib.hid (e5.trans (e6.trans (e7.trans e8)))
    go_wp2_with fail
    refine (markMailS_any _ _ _ _ _ 1 _ (by omega) (by omega) (E8.out.own O4.out)).mono ?_
    rintro e w9 ⟨rfl, g9⟩
    have P3 := Lib.hid ((E8.out.own (e4.own O3.out)).kept g9 (ne_row (fun k hk => by have := B3.out k hk; omega)))
    have P5 := Lib.hid (((e6.trans (e7.trans e8)).own O5.out).kept g9 (ne_row (fun k hk => by have := B5.out k hk; omega)))
    go_wp2_with fail
    refine (eqIntS_same _ _ _ _ _ CS _ (by omega) (Rd.own P5.out) (Rd.own P3.out)).mono ?_
    rintro e w10 ⟨rfl, e10⟩
    go_wp2_with fail
    refine (markIntS_any _ _ _ _ CS 1 _ (by omega) (by omega) (e10.own P5.out)).mono ?_
    rintro e w11 ⟨rfl, o11, g11⟩
    have O11 := Lib.hid o11
    clear o11
    go_wp2_with fail
    refine (heldIntS_any _ _ _ 1 _ (by omega) (by omega) (Rd.own O11.out)).mono ?_
    rintro e w12 ⟨rfl, e12⟩
    have E0 := Lib.hid (e1.trans (e13.trans (e4.trans E8.out)))
    have z3 : wb.heap.size ≤ w3.heap.size := (e1.trans e13).size
    have E9 := Lib.hid (E0.out.row g9 z3)
    have E11 := Lib.hid ((E9.out.trans e10).grown g11 (fun k hk => by have := B5.out k hk; omega))
    have E12 := Lib.hid (E11.out.trans e12)
    have P3b := Lib.hid (e12.own ((e10.own P3.out).kept g11 (ne_blocks (fun k hk => by have := B3.out k hk; exact this) (fun k hk => by have := B5.out k hk; omega))))
    have L12 := Lib.hid (show MailL w12 A n xs from ⟨H.out, by omega, HW.out, HR.out.ext E12.out⟩)
    obtain ⟨p0, p1, p2, p3, p4, p5, p6, p7, p8⟩ := X0.out.ext (E12.out)
    go_wp2_with fail
    go_region_held3 (fun w' => w'.cell? ⟨w.heap.size, 0, none⟩ = some (.int .i64 x.Id) ∧ w'.cell? ⟨w.heap.size, 1, none⟩ = some (.int .i64 x.Day) ∧ w'.cell? ⟨w.heap.size, 2, none⟩ = some (.int .i64 x.Zone) ∧ w'.cell? ⟨w.heap.size, 3, none⟩ = some (.int .i64 x.Grams) ∧ w'.cell? ⟨w.heap.size, 4, none⟩ = some (.int .i64 x.Paid) ∧ w'.cell? ⟨w.heap.size, 5, none⟩ = some (.int .i64 x.From) ∧ w'.cell? ⟨w.heap.size, 6, none⟩ = some (.int .i64 x.To) ∧ w'.cell? ⟨w.heap.size, 7, none⟩ = some (.int .i64 x.Leave) ∧ w'.cell? ⟨w.heap.size, 8, none⟩ = some (.int .i64 x.Arrive)) (((try dsimp only); go_split_ands; (repeat' apply And.intro) <;> first | assumption | exact Ext.cell1 he1 (by assumption) | (simp [*]; done) | (simp [*, go_sem, World.cell?_alloc_past]; done))) (first | (go_at_call 28; refine (toMailS_any _ _ _ xs _ H.out (by omega) (L12.out.ext (by repeat (first | exact Ext.refl _ | assumption | refine Ext.trans ?_ (by assumption) | refine Ext.drew ?_ | refine Ext.drewN ?_ _ | refine Ext.alloc ?_ _))).rd).mono ?_; rintro e wt ⟨rfl, ot, he1⟩) | (go_at_call 14; refine (toCover_any _ _ _ _ _ _ _ _ _ _).mono ?_; rintro e wa ⟨rfl, he1⟩; have ot2 := he1.own ot) | (go_at_call 32; refine (RouteOnI_any _ n n xs x _ ⟨H.out, by omega, HW.out, Rd.own (by first | exact ot2 | exact Ext.own (by repeat (first | exact Ext.refl _ | assumption | refine Ext.trans ?_ (by assumption) | refine Ext.drew ?_ | refine Ext.drewN ?_ _ | refine Ext.alloc ?_ _)) ot2)⟩).mono ?_; rintro e w14 ⟨A14, m14, c14, rfl, o14, he1⟩))
    all_goals
      rw [HCS.out] at o14
      have hm14 : m14 = CS.length := by have := o14.1; rw [ints_length] at this; omega
      subst hm14
      have O14 := Lib.hid o14
      clear o14
      have e14 : Ext w12 w14 := (by repeat (first | exact Ext.refl _ | assumption | refine Ext.trans ?_ (by assumption) | refine Ext.drew ?_ | refine Ext.drewN ?_ _ | refine Ext.alloc ?_ _))
      go_wp2_with fail
      refine (eqIntS_same _ _ _ _ _ CS _ (by omega) (Rd.own O14.out) (Rd.own (e14.own P3b.out))).mono ?_
      rintro e w15 ⟨rfl, e15⟩
      go_wp2_with fail
      refine (heldIntS_any _ _ _ 1 _ (by omega) (by omega) (Rd.own (e15.own (e14.own (e12.own O11.out))))).mono ?_
      rintro e w16 ⟨rfl, e16⟩
      go_wp2
      go_ret
      exact ⟨rfl, eW.trans (E12.out.trans (e14.trans (e15.trans e16)))⟩
end Go.Proofs.Ytopjomkjdmcljaa
