/- The law of ShadeText (made by wip/texts.py). -/
import Derived.Test.YtekfccfghmggmaaDoorItoa
import Derived.Test.YtekfccfghmggmaaDoorShade
namespace Go.Proofs.YtekfccfghmggmaaDoor
open Go.RowKit
set_option linter.unusedVariables false
set_option linter.unusedSimpArgs false
attribute [local go_sem] ExtOf.cell

def shadeT (Name : ByteArray) (Hue : Int) (Width : Int) (Dark : Int) (Light : Int) : ByteArray := if shOk Name Hue Width Dark Light then ((((((((Name ++ (⟨#[32]⟩ : ByteArray)) ++ numT Hue) ++ (⟨#[43, 45]⟩ : ByteArray)) ++ numT Width) ++ (⟨#[32]⟩ : ByteArray)) ++ numT Dark) ++ (⟨#[46, 46]⟩ : ByteArray)) ++ numT Light) else ByteArray.empty
theorem ret_str_bool' {a b : ByteArray} {p q : Bool} (h : a = b) (h' : p = q) : Ending.returned (.tuple #[.string a, .bool p]) = .returned (.tuple #[.string b, .bool q]) := by rw [h, h']

set_option maxRecDepth 100000 in
set_option maxHeartbeats 4000000 in
theorem ShadeTextI_any (Name : ByteArray) (Hue : Int) (Width : Int) (Dark : Int) (Light : Int) (hn : Name.size ≤ maxLen) (w : World) (ht : TabOkW w) :
    Calls Tryd.prog 19 #[.agg #[.string Name, .int .i64 Hue, .int .i64 Width, .int .i64 Dark, .int .i64 Light]] w fun e w' => e = .returned (.tuple #[.string (shadeT Name Hue Width Dark Light), .bool (shOk Name Hue Width Dark Light)]) ∧ Ext w w' := by
  by_cases h : shOk Name Hue Width Dark Light = true
  · have HB := Lib.hid h
    simp only [shOk, wordOk, inB, Bool.and_eq_true, Bool.not_eq_true', bne_iff_ne, ne_eq, decide_eq_true_eq, decide_eq_false_iff_not] at h
    obtain ⟨bHue, cHue, bWidth, cWidth, bDark, cDark, bLight, cLight, zName⟩ := (show 0 ≤ Hue ∧ Hue ≤ 1000000000 ∧ 0 ≤ Width ∧ Width ≤ 1000000000 ∧ 0 ≤ Dark ∧ Dark ≤ 1000000000 ∧ 0 ≤ Light ∧ Light ≤ 1000000000 ∧ Name.size ≤ 1000000001 by omega)
    clear h
    have zHue : (numT Hue).size ≤ 1000000001 := numT_size bHue cHue
    have zWidth : (numT Width).size ≤ 1000000001 := numT_size bWidth cWidth
    have zDark : (numT Dark).size ≤ 1000000001 := numT_size bDark cDark
    have zLight : (numT Light).size ≤ 1000000001 := numT_size bLight cLight
    have h := HB.out
    go_enter Tryd.func19, Tryd.ntmps19
    go_wp2_with (go_at_call 43; refine (isShade_any _ _ _ _ _ (by assumption) _).mono ?_; rintro e wa ⟨rfl, he1⟩; have hc1 := he1.cells; have hz1 : w.heap.size < wa.heap.size := by (have h := he1.size; (try simp only [World.size_alloc, World.size_drew] at h); omega))
    have HT := Lib.hid (ht.ext (w' := wa) (by (repeat (first | exact Ext.refl _ | assumption | refine Ext.trans ?_ (by assumption) | refine Ext.drew ?_ | refine Ext.drewN ?_ _ | refine Ext.alloc ?_ _))))
    (refine wp_region_ext_lit (by kernel_rfl) (by kernel_rfl) ?_; (repeat (go_big_quiet_step (((go_at_call 45; exact itoa_call HT.out (by omega) (by omega)))))); refine wpQuiet_nil ?_; rintro wq ⟨⟨_, heq⟩, rfl⟩; (try dsimp only))
    go_wp2_with fail
    go_ret2
    exact ⟨ret_str_bool' (by unfold shadeT; rw [if_pos HB.out]) HB.out.symm, (by (repeat (first | exact Ext.refl _ | assumption | refine Ext.trans ?_ (by assumption) | refine Ext.drew ?_ | refine Ext.drewN ?_ _ | refine Ext.alloc ?_ _)))⟩
  · have HB := Lib.hid h
    have h : shOk Name Hue Width Dark Light = false := by simpa using h
    go_enter Tryd.func19, Tryd.ntmps19
    go_wp2_with (go_at_call 43; refine (isShade_any _ _ _ _ _ (by assumption) _).mono ?_; rintro e wa ⟨rfl, he1⟩; have hc1 := he1.cells; have hz1 : w.heap.size < wa.heap.size := by (have h := he1.size; (try simp only [World.size_alloc, World.size_drew] at h); omega))
    go_ret2
    exact ⟨ret_str_bool' (by unfold shadeT; rw [if_neg HB.out]; rfl) h.symm, (by repeat (first | exact Ext.refl _ | assumption | refine Ext.trans ?_ (by assumption) | refine Ext.drew ?_ | refine Ext.drewN ?_ _ | refine Ext.alloc ?_ _))⟩

set_option maxRecDepth 100000 in
set_option maxHeartbeats 4000000 in
theorem ShadeTextS_any (Name : ByteArray) (Hue : Int) (Width : Int) (Dark : Int) (Light : Int) (hn : Name.size ≤ maxLen) (w : World) :
    Calls Tryd.prog 20 #[.agg #[.string Name, .int .i64 Hue, .int .i64 Width, .int .i64 Dark, .int .i64 Light]] w fun e w' => e = .returned (.tuple #[.string (shadeT Name Hue Width Dark Light), .bool (shOk Name Hue Width Dark Light)]) ∧ Ext w w' := by
  by_cases h : shOk Name Hue Width Dark Light = true
  · have HB := Lib.hid h
    simp only [shOk, wordOk, inB, Bool.and_eq_true, Bool.not_eq_true', bne_iff_ne, ne_eq, decide_eq_true_eq, decide_eq_false_iff_not] at h
    obtain ⟨bHue, cHue, bWidth, cWidth, bDark, cDark, bLight, cLight, zName⟩ := (show 0 ≤ Hue ∧ Hue ≤ 1000000000 ∧ 0 ≤ Width ∧ Width ≤ 1000000000 ∧ 0 ≤ Dark ∧ Dark ≤ 1000000000 ∧ 0 ≤ Light ∧ Light ≤ 1000000000 ∧ Name.size ≤ 1000000001 by omega)
    clear h
    have zHue : (numT Hue).size ≤ 1000000001 := numT_size bHue cHue
    have zWidth : (numT Width).size ≤ 1000000001 := numT_size bWidth cWidth
    have zDark : (numT Dark).size ≤ 1000000001 := numT_size bDark cDark
    have zLight : (numT Light).size ≤ 1000000001 := numT_size bLight cLight
    have h := HB.out
    go_enter Tryd.func20, Tryd.ntmps20
    go_wp2_with (go_at_call 44; refine (l7One_any _ _ _ _ _ (by assumption) _).mono ?_; rintro e wa ⟨rfl, he1⟩; have hc1 := he1.cells; have hz1 : w.heap.size < wa.heap.size := by (have h := he1.size; (try simp only [World.size_alloc, World.size_drew] at h); omega))
    (refine wp_region_ext_lit (by kernel_rfl) (by kernel_rfl) ?_; (repeat (go_big_quiet_step (((go_at_call 46; exact ext_call (l1Num_any _ _ _ (by omega) (Int.le_of_eq (Int.toNat_of_nonneg (by omega)).symm) (by omega))))))); refine wpQuiet_nil ?_; rintro wq ⟨⟨_, heq⟩, rfl⟩; (try dsimp only))
    go_wp2_with fail
    go_ret2
    exact ⟨ret_str_bool' (by unfold shadeT; rw [if_pos HB.out]) HB.out.symm, (by (repeat (first | exact Ext.refl _ | assumption | refine Ext.trans ?_ (by assumption) | refine Ext.drew ?_ | refine Ext.drewN ?_ _ | refine Ext.alloc ?_ _)))⟩
  · have HB := Lib.hid h
    have h : shOk Name Hue Width Dark Light = false := by simpa using h
    go_enter Tryd.func20, Tryd.ntmps20
    go_wp2_with (go_at_call 44; refine (l7One_any _ _ _ _ _ (by assumption) _).mono ?_; rintro e wa ⟨rfl, he1⟩; have hc1 := he1.cells; have hz1 : w.heap.size < wa.heap.size := by (have h := he1.size; (try simp only [World.size_alloc, World.size_drew] at h); omega))
    go_ret2
    exact ⟨ret_str_bool' (by unfold shadeT; rw [if_neg HB.out]; rfl) h.symm, (by repeat (first | exact Ext.refl _ | assumption | refine Ext.trans ?_ (by assumption) | refine Ext.drew ?_ | refine Ext.drewN ?_ _ | refine Ext.alloc ?_ _))⟩

end Go.Proofs.YtekfccfghmggmaaDoor
