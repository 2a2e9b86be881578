/- Combs that match: the question, one comb. -/
import Derived.Test.YtoafaejhabjlnaaDoorCombL
import Derived.IntWalk
namespace Go.Proofs.YtoafaejhabjlnaaDoor
open Go.RowKit
set_option linter.unusedVariables false
set_option linter.unusedSimpArgs false
attribute [local go_sem] ExtOf.cell

def zg (g : Int) : Bool := decide (g = 0) || gOk g
def near (g m o : Int) : Bool := decide (m = 0) || inB g (m - o) (m + o)
def matchB (w h o : Int) (x : Comb) : Bool := near x.Wide w o && near x.High h o
def askC (xs : List Comb) (w h o : Int) : Bool := CombsOk xs && (zg w && (zg h && inB o 0 100))
theorem zg_cases (g : Int) : (g = 0 ∧ zg g = true) ∨ ((g == 0) = false ∧ decide (g = 0) = false ∧ gOk g = true ∧ zg g = true) ∨ ((g == 0) = false ∧ decide (g = 0) = false ∧ gOk g = false ∧ zg g = false) := by
  by_cases h : g = 0
  · exact .inl ⟨h, by simp [zg, h]⟩
  · right
    have h1 : (g == 0) = false := by simpa using h
    have h2 : decide (g = 0) = false := by simpa using h
    cases h3 : gOk g
    · exact .inr ⟨h1, h2, rfl, by simp [zg, h, h3]⟩
    · exact .inl ⟨h1, h2, rfl, by simp [zg, h3]⟩
theorem near_cases (g m o : Int) : (m = 0 ∧ near g m o = true) ∨ ((m == 0) = false ∧ decide (m = 0) = false ∧ inB g (m - o) (m + o) = true ∧ near g m o = true) ∨ ((m == 0) = false ∧ decide (m = 0) = false ∧ inB g (m - o) (m + o) = false ∧ near g m o = false) := by
  by_cases h : m = 0
  · exact .inl ⟨h, by simp [near, h]⟩
  · right
    have h1 : (m == 0) = false := by simpa using h
    have h2 : decide (m = 0) = false := by simpa using h
    cases h3 : inB g (m - o) (m + o)
    · exact .inr ⟨h1, h2, rfl, by simp [near, h, h3]⟩
    · exact .inl ⟨h1, h2, rfl, by simp [near, h3]⟩
theorem zg_bd {g : Int} (h : zg g = true) : 0 ≤ g ∧ g ≤ 2000 := by
  simp only [zg, gOk, inB, Bool.or_eq_true, Bool.and_eq_true, decide_eq_true_eq] at h
  omega
theorem askC_all {xs : List Comb} {w h o : Int} (hh : askC xs w h o = true) : CombsOk xs = true ∧ (0 ≤ w ∧ w ≤ 2000) ∧ (0 ≤ h ∧ h ≤ 2000) ∧ (0 ≤ o ∧ o ≤ 100) := by
  simp only [askC, Bool.and_eq_true] at hh
  obtain ⟨h1, h2, h3, h4⟩ := hh
  exact ⟨h1, zg_bd h2, zg_bd h3, inB_iff.1 h4⟩
theorem askC_turn (xs : List Comb) (w h o : Int) : askC xs h w o = askC xs w h o := by
  unfold askC
  cases zg w <;> cases zg h <;> simp
set_option maxHeartbeats 4000000 in
theorem measured_any (A : Option Addr) (n c : Nat) (xs : List Comb) (wide high off : Int) (w : World) (h : CombL w A n xs) :
    Calls Tryd.prog 28 #[.slice A n c, .int .i64 wide, .int .i64 high, .int .i64 off] w fun e w' => e = .returned (.bool (askC xs wide high off)) ∧ Ext w w' := by
  unfold askC
  cases h1 : CombsOk xs
  · go_enter Tryd.func28, Tryd.ntmps28
    go_wp2_with (go_at_call 32; refine (areCombs_any A n c xs _ h).mono ?_; rintro e wa ⟨rfl, he1⟩; have hc1 := he1.cells)
    go_ret
    exact ⟨ret_bool (by simp), he1⟩
  rcases zg_cases wide with ⟨rfl, z1⟩ | ⟨a1, a2, a3, z1⟩ | ⟨a1, a2, a3, z1⟩
  all_goals rcases zg_cases high with ⟨rfl, z2⟩ | ⟨b1, b2, b3, z2⟩ | ⟨b1, b2, b3, z2⟩
  all_goals cases h4 : inB off 0 100
  all_goals
    go_enter Tryd.func28, Tryd.ntmps28
    go_wp2_with (first | (go_at_call 32; refine (areCombs_any A n c xs _ h).mono ?_; rintro e wa ⟨rfl, he1⟩; have hc1 := he1.cells) | (go_at_call 36; refine (isGauge_any _ _).mono ?_; rintro e w' ⟨rfl, rfl⟩) | (go_at_call 47; refine (inRange_any _ _ _ _).mono ?_; rintro e w' ⟨rfl, rfl⟩))
    go_ret
    exact ⟨ret_bool (by simp [*]), he1⟩
set_option maxHeartbeats 4000000 in
theorem l5Asked_any (A : Option Addr) (n c : Nat) (xs : List Comb) (wide high off : Int) (w : World) (h : CombL w A n xs) :
    Calls Tryd.prog 30 #[.slice A n c, .int .i64 wide, .int .i64 high, .int .i64 off] w fun e w' => e = .returned (.bool (askC xs wide high off)) ∧ Ext w w' := by
  unfold askC
  cases h1 : CombsOk xs
  · go_enter Tryd.func30, Tryd.ntmps30
    go_wp2_with (go_at_call 35; refine (l5Good_any A n c xs _ h).mono ?_; rintro e wa ⟨rfl, he1⟩; have hc1 := he1.cells)
    go_ret
    exact ⟨ret_bool (by simp), he1⟩
  rcases zg_cases wide with ⟨rfl, z1⟩ | ⟨a1, a2, a3, z1⟩ | ⟨a1, a2, a3, z1⟩
  all_goals rcases zg_cases high with ⟨rfl, z2⟩ | ⟨b1, b2, b3, z2⟩ | ⟨b1, b2, b3, z2⟩
  all_goals cases h4 : inB off 0 100
  all_goals
    go_enter Tryd.func30, Tryd.ntmps30
    go_wp2_with (first | (go_at_call 35; refine (l5Good_any A n c xs _ h).mono ?_; rintro e wa ⟨rfl, he1⟩; have hc1 := he1.cells) | (go_at_call 38; refine (l5Gauge_any _ _).mono ?_; rintro e w' ⟨rfl, rfl⟩) | (go_at_call 48; refine (l1In_any _ _ _ _).mono ?_; rintro e w' ⟨rfl, rfl⟩))
    go_ret
    exact ⟨ret_bool (by simp [*]), he1⟩
set_option maxHeartbeats 4000000 in
theorem matches_any (Id Wide High : Int) (Line : Bool) (wide high off : Int) (w : World) (h1 : 0 ≤ wide ∧ wide ≤ 2000) (h2 : 0 ≤ high ∧ high ≤ 2000) (h3 : 0 ≤ off ∧ off ≤ 100) :
    Calls Tryd.prog 29 #[.agg #[.int .i64 Id, .int .i64 Wide, .int .i64 High, .bool Line], .int .i64 wide, .int .i64 high, .int .i64 off] w fun e w' => e = .returned (.bool (matchB wide high off ⟨Id, Wide, High, Line⟩)) ∧ Ext w w' := by
  unfold matchB
  rcases near_cases Wide wide off with ⟨rfl, z1⟩ | ⟨a1, a2, a3, z1⟩ | ⟨a1, a2, a3, z1⟩
  all_goals rcases near_cases High high off with ⟨rfl, z2⟩ | ⟨b1, b2, b3, z2⟩ | ⟨b1, b2, b3, z2⟩
  all_goals
    go_enter Tryd.func29, Tryd.ntmps29
    go_wp2_with (go_at_call 47; refine (inRange_any _ _ _ _).mono ?_; rintro e w' ⟨rfl, rfl⟩)
    go_ret
    exact ⟨ret_bool (by simp [*]), (by repeat (first | exact Ext.refl _ | assumption | refine Ext.trans ?_ (by assumption) | refine Ext.drew ?_ | refine Ext.drewN ?_ _ | refine Ext.alloc ?_ _))⟩
set_option maxHeartbeats 1000000 in
theorem l5Near_any (g m o : Int) (w : World) (h1 : 0 ≤ m ∧ m ≤ 2000) (h3 : 0 ≤ o ∧ o ≤ 100) :
    Calls Tryd.prog 49 #[.int .i64 g, .int .i64 m, .int .i64 o] w fun e w' => e = .returned (.bool (near g m o)) ∧ w = w' := by
  rcases near_cases g m o with ⟨rfl, z1⟩ | ⟨a1, a2, a3, z1⟩ | ⟨a1, a2, a3, z1⟩
  all_goals
    go_enter Tryd.func49, Tryd.ntmps49
    go_wp2_with (go_at_call 48; refine (l1In_any _ _ _ _).mono ?_; rintro e w' ⟨rfl, rfl⟩)
    go_ret
    exact ⟨ret_bool (by simp [*]), rfl⟩
set_option maxHeartbeats 1000000 in
theorem l5Match_any (Id Wide High : Int) (Line : Bool) (wide high off : Int) (w : World) (h1 : 0 ≤ wide ∧ wide ≤ 2000) (h2 : 0 ≤ high ∧ high ≤ 2000) (h3 : 0 ≤ off ∧ off ≤ 100) :
    Calls Tryd.prog 31 #[.agg #[.int .i64 Id, .int .i64 Wide, .int .i64 High, .bool Line], .int .i64 wide, .int .i64 high, .int .i64 off] w fun e w' => e = .returned (.bool (matchB wide high off ⟨Id, Wide, High, Line⟩)) ∧ Ext w w' := by
  unfold matchB
  cases z1 : near Wide wide off
  all_goals cases z2 : near High high off
  all_goals
    go_enter Tryd.func31, Tryd.ntmps31
    go_wp2_with (go_at_call 49; refine (l5Near_any _ _ _ _ (by assumption) h3).mono ?_; rintro e w' ⟨rfl, rfl⟩)
    go_ret
    exact ⟨ret_bool (by simp [*]), (by repeat (first | exact Ext.refl _ | assumption | refine Ext.trans ?_ (by assumption) | refine Ext.drew ?_ | refine Ext.drewN ?_ _ | refine Ext.alloc ?_ _))⟩
end Go.Proofs.YtoafaejhabjlnaaDoor
