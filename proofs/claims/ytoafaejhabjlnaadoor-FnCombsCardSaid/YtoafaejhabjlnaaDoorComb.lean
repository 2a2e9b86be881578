/- The law of CombText. -/
import Derived.Test.YtoafaejhabjlnaaDoorGauge
import Derived.Test.YtoafaejhabjlnaaDoorStructs
namespace Go.Proofs.YtoafaejhabjlnaaDoor
open Go.ChangeShapes Go.WideShapes Go.RowKit Go.Deep
set_option linter.unusedVariables false
set_option linter.unusedSimpArgs false
attribute [local go_sem] ExtOf.cell

/-- Comb, as the program has it. -/
structure Comb where
  Id : Int
  Wide : Int
  High : Int
  Line : Bool
section
variable {H : Type} {enc : TypeId × Value → H} {w : World} {base : Nat} {spare : Nat → Bool} {held : Bool}
theorem trod_bool1 {P : Program} {t : TypeId} {n : Nat} {u : Value} {y : DataW H × List MemPlace} (ht : P.underlying t = some .bool) (h : DataW.trod enc P w base spare held n t [u] = some y) : ∃ b, u = .bool b := by
  obtain ⟨b, e, _⟩ := DataW.trod_bool ht h
  simp at e
  exact ⟨b, e⟩
end

def cbOk (Id Wide High : Int) : Bool := inB Id 1 99 && gOk Wide && gOk High
def combS (Id Wide : Int) : ByteArray := (((⟨#[99]⟩ : ByteArray) ++ numT Id) ++ (⟨#[32]⟩ : ByteArray)) ++ gaugeT Wide
def combH (Id Wide High : Int) : ByteArray := if High = Wide then combS Id Wide else (combS Id Wide ++ (⟨#[32, 120, 32]⟩ : ByteArray)) ++ gaugeT High
def combT (Id Wide High : Int) (Line : Bool) : ByteArray := if cbOk Id Wide High then (if Line then combH Id Wide High ++ (⟨#[32, 108, 105, 110, 101]⟩ : ByteArray) else combH Id Wide High) else ⟨#[]⟩
theorem app_assoc (a b c : ByteArray) : a ++ (b ++ c) = (a ++ b) ++ c := by
  apply ByteArray.ext
  simp [ByteArray.data_append]
set_option maxHeartbeats 1000000 in
theorem isComb_any (Id Wide High : Int) (Line : Bool) (w : World) :
    Calls Tryd.prog 41 #[.agg #[.int .i64 Id, .int .i64 Wide, .int .i64 High, .bool Line]] w fun e w' => e = .returned (.bool (cbOk Id Wide High)) ∧ Ext w w' := by
  unfold cbOk
  rcases chain3 (inB Id 1 99) (gOk Wide) (gOk High) with h1 | ⟨h1, h2⟩ | ⟨h1, h2, h3⟩ | ⟨h1, h2, h3⟩
  all_goals
    go_enter Tryd.func41, Tryd.ntmps41
    go_wp2_with (first | (go_at_call 47; refine (inRange_any _ _ _ _).mono ?_; rintro e w' ⟨rfl, rfl⟩) | (go_at_call 36; refine (isGauge_any _ _).mono ?_; rintro e w' ⟨rfl, rfl⟩))
    go_ret
    exact ⟨ret_bool (by simp [*]), (by repeat (first | exact Ext.refl _ | assumption | refine Ext.trans ?_ (by assumption) | refine Ext.drew ?_ | refine Ext.drewN ?_ _ | refine Ext.alloc ?_ _))⟩
set_option maxHeartbeats 1000000 in
theorem l5One_any (Id Wide High : Int) (Line : Bool) (w : World) :
    Calls Tryd.prog 43 #[.agg #[.int .i64 Id, .int .i64 Wide, .int .i64 High, .bool Line]] w fun e w' => e = .returned (.bool (cbOk Id Wide High)) ∧ Ext w w' := by
  unfold cbOk
  rcases chain3 (inB Id 1 99) (gOk Wide) (gOk High) with h1 | ⟨h1, h2⟩ | ⟨h1, h2, h3⟩ | ⟨h1, h2, h3⟩
  all_goals
    go_enter Tryd.func43, Tryd.ntmps43
    go_wp2_with (first | (go_at_call 48; refine (l1In_any _ _ _ _).mono ?_; rintro e w' ⟨rfl, rfl⟩) | (go_at_call 38; refine (l5Gauge_any _ _).mono ?_; rintro e w' ⟨rfl, rfl⟩))
    go_ret
    exact ⟨ret_bool (by simp [*]), (by repeat (first | exact Ext.refl _ | assumption | refine Ext.trans ?_ (by assumption) | refine Ext.drew ?_ | refine Ext.drewN ?_ _ | refine Ext.alloc ?_ _))⟩
set_option maxRecDepth 100000 in
set_option maxHeartbeats 4000000 in
theorem CombTextI_any (Id Wide High : Int) (Line : Bool) (w : World) (ht : TabOkW w) :
    Calls Tryd.prog 19 #[.agg #[.int .i64 Id, .int .i64 Wide, .int .i64 High, .bool Line]] w fun e w' => e = .returned (.tuple #[.string (combT Id Wide High Line), .bool (cbOk Id Wide High)]) ∧ Ext w w' := by
  by_cases h : cbOk Id Wide High = true
  · have HB := Lib.hid h
    simp only [cbOk, gOk, inB, Bool.and_eq_true, decide_eq_true_eq] at h
    obtain ⟨b1, b2, b3, b4, b5, b6⟩ := (show 0 ≤ Id ∧ Id ≤ 10000 ∧ 0 ≤ Wide ∧ Wide ≤ 10000 ∧ 0 ≤ High ∧ High ≤ 10000 by omega)
    clear h
    have z1 : (numT Id).size ≤ 5 := numT_five b1 b2
    have z2 : (gaugeT Wide).size ≤ 8 := gaugeT_size b3 b4
    have z3 : (gaugeT High).size ≤ 8 := gaugeT_size b5 b6
    have h := HB.out
    by_cases hd : High = Wide
    · subst hd
      cases Line
      all_goals
        go_enter Tryd.func19, Tryd.ntmps19
        go_wp2_with (go_at_call 41; refine (isComb_any _ _ _ _ _).mono ?_; rintro e wa ⟨rfl, he1⟩; have hc1 := he1.cells; have hz1 : w.heap.size < wa.heap.size := by (have h := he1.size; (try simp only [World.size_alloc, World.size_drew] at h); omega))
        have HT := Lib.hid (ht.ext (w' := wa) (by (repeat (first | exact Ext.refl _ | assumption | refine Ext.trans ?_ (by assumption) | refine Ext.drew ?_ | refine Ext.drewN ?_ _ | refine Ext.alloc ?_ _))))
        (refine wp_region_ext_lit (by kernel_rfl) (by kernel_rfl) ?_; (repeat (go_big_quiet_step ((first | (go_at_call 42; exact itoa_call HT.out (by omega) (by omega)) | (go_at_call 37; exact ext_call (gaugeText_any _ _ b3 b4 (HT.out.ext (ExtOf.ext _)))))))); refine wpQuiet_nil ?_; rintro wq ⟨⟨_, heq⟩, rfl⟩; (try dsimp only))
        have hcq := heq.cells
        have hzq := Nat.lt_of_lt_of_le hz1 heq.size
        go_wp2_with fail
        go_ret2
        exact ⟨ret_str_bool' (by unfold combT combH combS; rw [if_pos HB.out]; simp) HB.out.symm, (by (repeat (first | exact Ext.refl _ | assumption | refine Ext.trans ?_ (by assumption) | refine Ext.drew ?_ | refine Ext.drewN ?_ _ | refine Ext.alloc ?_ _)))⟩
    · have hn : (High == Wide) = false := by simpa using hd
      have hn2 : decide (High = Wide) = false := by simpa using hd
      have HD := Lib.hid hd
      clear hd
      cases Line
      all_goals
        go_enter Tryd.func19, Tryd.ntmps19
        go_wp2_with (go_at_call 41; refine (isComb_any _ _ _ _ _).mono ?_; rintro e wa ⟨rfl, he1⟩; have hc1 := he1.cells; have hz1 : w.heap.size < wa.heap.size := by (have h := he1.size; (try simp only [World.size_alloc, World.size_drew] at h); omega))
        have HT := Lib.hid (ht.ext (w' := wa) (by (repeat (first | exact Ext.refl _ | assumption | refine Ext.trans ?_ (by assumption) | refine Ext.drew ?_ | refine Ext.drewN ?_ _ | refine Ext.alloc ?_ _))))
        (refine wp_region_ext_lit (by kernel_rfl) (by kernel_rfl) ?_; (repeat (go_big_quiet_step ((first | (go_at_call 42; exact itoa_call HT.out (by omega) (by omega)) | (go_at_call 37; exact ext_call (gaugeText_any _ _ b3 b4 (HT.out.ext (ExtOf.ext _)))))))); refine wpQuiet_nil ?_; rintro wq ⟨⟨_, heq⟩, rfl⟩; (try dsimp only))
        have hcq := heq.cells
        have hzq := Nat.lt_of_lt_of_le hz1 heq.size
        go_wp2_with (go_at_call 37; refine (gaugeText_any _ _ b5 b6 (HT.out.ext (by assumption))).mono ?_; rintro e wb ⟨rfl, he2⟩; have hc2 := he2.cells)
        go_ret2
        exact ⟨ret_str_bool' (by unfold combT combH combS; rw [if_pos HB.out, if_neg HD.out]; simp [app_assoc]) HB.out.symm, (by (repeat (first | exact Ext.refl _ | assumption | refine Ext.trans ?_ (by assumption) | refine Ext.drew ?_ | refine Ext.drewN ?_ _ | refine Ext.alloc ?_ _)))⟩
  · have HB := Lib.hid h
    have h : cbOk Id Wide High = false := by simpa using h
    go_enter Tryd.func19, Tryd.ntmps19
    go_wp2_with (go_at_call 41; refine (isComb_any _ _ _ _ _).mono ?_; rintro e wa ⟨rfl, he1⟩)
    go_ret2
    exact ⟨ret_str_bool' (by unfold combT; rw [if_neg HB.out]) h.symm, (by repeat (first | exact Ext.refl _ | assumption | refine Ext.trans ?_ (by assumption) | refine Ext.drew ?_ | refine Ext.drewN ?_ _ | refine Ext.alloc ?_ _))⟩
set_option maxRecDepth 100000 in
set_option maxHeartbeats 4000000 in
theorem CombTextS_any (Id Wide High : Int) (Line : Bool) (w : World) :
    Calls Tryd.prog 20 #[.agg #[.int .i64 Id, .int .i64 Wide, .int .i64 High, .bool Line]] w fun e w' => e = .returned (.tuple #[.string (combT Id Wide High Line), .bool (cbOk Id Wide High)]) ∧ Ext w w' := by
  by_cases h : cbOk Id Wide High = true
  · have HB := Lib.hid h
    simp only [cbOk, gOk, inB, Bool.and_eq_true, decide_eq_true_eq] at h
    obtain ⟨b1, b2, b3, b4, b5, b6⟩ := (show 0 ≤ Id ∧ Id ≤ 10000 ∧ 0 ≤ Wide ∧ Wide ≤ 10000 ∧ 0 ≤ High ∧ High ≤ 10000 by omega)
    clear h
    have z1 : (numT Id).size ≤ 5 := numT_five b1 b2
    have z2 : (gaugeT Wide).size ≤ 8 := gaugeT_size b3 b4
    have z3 : (gaugeT High).size ≤ 8 := gaugeT_size b5 b6
    have h := HB.out
    by_cases hd : High = Wide
    · subst hd
      cases Line
      all_goals
        go_enter Tryd.func20, Tryd.ntmps20
        go_wp2_with (go_at_call 43; refine (l5One_any _ _ _ _ _).mono ?_; rintro e wa ⟨rfl, he1⟩; have hc1 := he1.cells; have hz1 : w.heap.size < wa.heap.size := by (have h := he1.size; (try simp only [World.size_alloc, World.size_drew] at h); omega))
        (refine wp_region_ext_lit (by kernel_rfl) (by kernel_rfl) ?_; (repeat (go_big_quiet_step ((first | (go_at_call 44; exact ext_call (l1Num_any _ _ _ b1 (Int.le_of_eq (Int.toNat_of_nonneg b1).symm) (by omega))) | (go_at_call 39; exact ext_call (l5Text_any _ _ b3 b4)))))); refine wpQuiet_nil ?_; rintro wq ⟨⟨_, heq⟩, rfl⟩; (try dsimp only))
        have hcq := heq.cells
        have hzq := Nat.lt_of_lt_of_le hz1 heq.size
        go_wp2_with fail
        go_ret2
        exact ⟨ret_str_bool' (by unfold combT combH combS; rw [if_pos HB.out]; simp) HB.out.symm, (by (repeat (first | exact Ext.refl _ | assumption | refine Ext.trans ?_ (by assumption) | refine Ext.drew ?_ | refine Ext.drewN ?_ _ | refine Ext.alloc ?_ _)))⟩
    · have hn : (High == Wide) = false := by simpa using hd
      have hn2 : decide (High = Wide) = false := by simpa using hd
      have HD := Lib.hid hd
      clear hd
      cases Line
      all_goals
        go_enter Tryd.func20, Tryd.ntmps20
        go_wp2_with (go_at_call 43; refine (l5One_any _ _ _ _ _).mono ?_; rintro e wa ⟨rfl, he1⟩; have hc1 := he1.cells; have hz1 : w.heap.size < wa.heap.size := by (have h := he1.size; (try simp only [World.size_alloc, World.size_drew] at h); omega))
        (refine wp_region_ext_lit (by kernel_rfl) (by kernel_rfl) ?_; (repeat (go_big_quiet_step ((first | (go_at_call 44; exact ext_call (l1Num_any _ _ _ b1 (Int.le_of_eq (Int.toNat_of_nonneg b1).symm) (by omega))) | (go_at_call 39; exact ext_call (l5Text_any _ _ b3 b4)))))); refine wpQuiet_nil ?_; rintro wq ⟨⟨_, heq⟩, rfl⟩; (try dsimp only))
        have hcq := heq.cells
        have hzq := Nat.lt_of_lt_of_le hz1 heq.size
        go_wp2_with (go_at_call 39; refine (l5Text_any _ _ b5 b6).mono ?_; rintro e wb ⟨rfl, he2⟩; have hc2 := he2.cells)
        go_ret2
        exact ⟨ret_str_bool' (by unfold combT combH combS; rw [if_pos HB.out, if_neg HD.out]; simp) HB.out.symm, (by (repeat (first | exact Ext.refl _ | assumption | refine Ext.trans ?_ (by assumption) | refine Ext.drew ?_ | refine Ext.drewN ?_ _ | refine Ext.alloc ?_ _)))⟩
  · have HB := Lib.hid h
    have h : cbOk Id Wide High = false := by simpa using h
    go_enter Tryd.func20, Tryd.ntmps20
    go_wp2_with (go_at_call 43; refine (l5One_any _ _ _ _ _).mono ?_; rintro e wa ⟨rfl, he1⟩)
    go_ret2
    exact ⟨ret_str_bool' (by unfold combT; rw [if_neg HB.out]) h.symm, (by repeat (first | exact Ext.refl _ | assumption | refine Ext.trans ?_ (by assumption) | refine Ext.drew ?_ | refine Ext.drewN ?_ _ | refine Ext.alloc ?_ _))⟩
end Go.Proofs.YtoafaejhabjlnaaDoor
