/- The law of MailText (made by wip/texts.py). -/
import Derived.Test.YtmgpdenofkloeaaDoorItoa
import Derived.Test.YtmgpdenofkloeaaDoorMail1
namespace Go.Proofs.YtmgpdenofkloeaaDoor
open Go.RowKit
set_option linter.unusedVariables false
set_option linter.unusedSimpArgs false
attribute [local go_sem] ExtOf.cell

def mailT (Leave : Int) (From : Int) (To : Int) (Arrive : Int) : ByteArray := if mlOk Leave From To Arrive then ((((((numT From ++ (⟨#[62]⟩ : ByteArray)) ++ numT To) ++ (⟨#[32]⟩ : ByteArray)) ++ numT Leave) ++ (⟨#[45]⟩ : ByteArray)) ++ numT Arrive) else ByteArray.empty
theorem ret_str_bool' {a b : ByteArray} {p q : Bool} (h : a = b) (h' : p = q) : Ending.returned (.tuple #[.string a, .bool p]) = .returned (.tuple #[.string b, .bool q]) := by rw [h, h']
theorem MailWf_ends {x : Mail} (h : x.Wf) : -9223372036854775808 ≤ x.Arrive ∧ x.Arrive ≤ 9223372036854775807 := by
  obtain ⟨_, _, _, h⟩ := h
  have e1 : IntKind.i64.min = -9223372036854775808 := rfl
  have e2 : IntKind.i64.max = 9223372036854775807 := rfl
  simp [Lit.wf, e1, e2] at h
  omega

set_option maxRecDepth 100000 in
set_option maxHeartbeats 4000000 in
theorem MailTextI_any (Leave : Int) (From : Int) (To : Int) (Arrive : Int) (hlo : -9223372036854775808 ≤ Arrive) (hhi : Arrive ≤ 9223372036854775807) (w : World) (ht : TabOkW w) :
    Calls Tryd.prog 18 #[.agg #[.int .i64 Leave, .int .i64 From, .int .i64 To, .int .i64 Arrive]] w fun e w' => e = .returned (.tuple #[.string (mailT Leave From To Arrive), .bool (mlOk Leave From To Arrive)]) ∧ Ext w w' := by
  by_cases h : mlOk Leave From To Arrive = true
  · have HB := Lib.hid h
    simp only [mlOk, inB, Bool.and_eq_true, Bool.not_eq_true', bne_iff_ne, ne_eq, decide_eq_true_eq, decide_eq_false_iff_not] at h
    obtain ⟨bLeave, cLeave, bFrom, cFrom, bTo, cTo, bArrive, cArrive⟩ := (show 0 ≤ Leave ∧ Leave ≤ 1000000000 ∧ 0 ≤ From ∧ From ≤ 1000000000 ∧ 0 ≤ To ∧ To ≤ 1000000000 ∧ 0 ≤ Arrive ∧ Arrive ≤ 1000000000 by omega)
    clear h
    have zLeave : (numT Leave).size ≤ 1000000001 := numT_size bLeave cLeave
    have zFrom : (numT From).size ≤ 1000000001 := numT_size bFrom cFrom
    have zTo : (numT To).size ≤ 1000000001 := numT_size bTo cTo
    have zArrive : (numT Arrive).size ≤ 1000000001 := numT_size bArrive cArrive
    have h := HB.out
    go_enter Tryd.func18, Tryd.ntmps18
    go_wp2_with (go_at_call 33; refine (isMail_any _ _ _ _ _ hlo hhi).mono ?_; rintro e wa ⟨rfl, he1⟩; have hc1 := he1.cells; have hz1 : w.heap.size < wa.heap.size := by (have h := he1.size; (try simp only [World.size_alloc, World.size_drew] at h); omega))
    have HT := Lib.hid (ht.ext (w' := wa) (by (repeat (first | exact Ext.refl _ | assumption | refine Ext.trans ?_ (by assumption) | refine Ext.drew ?_ | refine Ext.drewN ?_ _ | refine Ext.alloc ?_ _))))
    (refine wp_region_ext_lit (by kernel_rfl) (by kernel_rfl) ?_; (repeat (go_big_quiet_step (((go_at_call 34; exact itoa_call HT.out (by omega) (by omega)))))); refine wpQuiet_nil ?_; rintro wq ⟨⟨_, heq⟩, rfl⟩; (try dsimp only))
    go_wp2_with fail
    go_ret2
    exact ⟨ret_str_bool' (by unfold mailT; rw [if_pos HB.out]) HB.out.symm, (by (repeat (first | exact Ext.refl _ | assumption | refine Ext.trans ?_ (by assumption) | refine Ext.drew ?_ | refine Ext.drewN ?_ _ | refine Ext.alloc ?_ _)))⟩
  · have HB := Lib.hid h
    have h : mlOk Leave From To Arrive = false := by simpa using h
    go_enter Tryd.func18, Tryd.ntmps18
    go_wp2_with (go_at_call 33; refine (isMail_any _ _ _ _ _ hlo hhi).mono ?_; rintro e wa ⟨rfl, he1⟩; have hc1 := he1.cells; have hz1 : w.heap.size < wa.heap.size := by (have h := he1.size; (try simp only [World.size_alloc, World.size_drew] at h); omega))
    go_ret2
    exact ⟨ret_str_bool' (by unfold mailT; rw [if_neg HB.out]; rfl) h.symm, (by repeat (first | exact Ext.refl _ | assumption | refine Ext.trans ?_ (by assumption) | refine Ext.drew ?_ | refine Ext.drewN ?_ _ | refine Ext.alloc ?_ _))⟩

set_option maxRecDepth 100000 in
set_option maxHeartbeats 4000000 in
theorem MailTextS_any (Leave : Int) (From : Int) (To : Int) (Arrive : Int) (hlo : -9223372036854775808 ≤ Arrive) (hhi : Arrive ≤ 9223372036854775807) (w : World) :
    Calls Tryd.prog 19 #[.agg #[.int .i64 Leave, .int .i64 From, .int .i64 To, .int .i64 Arrive]] w fun e w' => e = .returned (.tuple #[.string (mailT Leave From To Arrive), .bool (mlOk Leave From To Arrive)]) ∧ Ext w w' := by
  by_cases h : mlOk Leave From To Arrive = true
  · have HB := Lib.hid h
    simp only [mlOk, inB, Bool.and_eq_true, Bool.not_eq_true', bne_iff_ne, ne_eq, decide_eq_true_eq, decide_eq_false_iff_not] at h
    obtain ⟨bLeave, cLeave, bFrom, cFrom, bTo, cTo, bArrive, cArrive⟩ := (show 0 ≤ Leave ∧ Leave ≤ 1000000000 ∧ 0 ≤ From ∧ From ≤ 1000000000 ∧ 0 ≤ To ∧ To ≤ 1000000000 ∧ 0 ≤ Arrive ∧ Arrive ≤ 1000000000 by omega)
    clear h
    have zLeave : (numT Leave).size ≤ 1000000001 := numT_size bLeave cLeave
    have zFrom : (numT From).size ≤ 1000000001 := numT_size bFrom cFrom
    have zTo : (numT To).size ≤ 1000000001 := numT_size bTo cTo
    have zArrive : (numT Arrive).size ≤ 1000000001 := numT_size bArrive cArrive
    have h := HB.out
    go_enter Tryd.func19, Tryd.ntmps19
    go_wp2_with (go_at_call 35; refine (l9One_any _ _ _ _ _ hlo hhi).mono ?_; rintro e wa ⟨rfl, he1⟩; have hc1 := he1.cells; have hz1 : w.heap.size < wa.heap.size := by (have h := he1.size; (try simp only [World.size_alloc, World.size_drew] at h); omega))
    (refine wp_region_ext_lit (by kernel_rfl) (by kernel_rfl) ?_; (repeat (go_big_quiet_step (((go_at_call 36; exact ext_call (l1Num_any _ _ _ (by omega) (Int.le_of_eq (Int.toNat_of_nonneg (by omega)).symm) (by omega))))))); refine wpQuiet_nil ?_; rintro wq ⟨⟨_, heq⟩, rfl⟩; (try dsimp only))
    go_wp2_with fail
    go_ret2
    exact ⟨ret_str_bool' (by unfold mailT; rw [if_pos HB.out]) HB.out.symm, (by (repeat (first | exact Ext.refl _ | assumption | refine Ext.trans ?_ (by assumption) | refine Ext.drew ?_ | refine Ext.drewN ?_ _ | refine Ext.alloc ?_ _)))⟩
  · have HB := Lib.hid h
    have h : mlOk Leave From To Arrive = false := by simpa using h
    go_enter Tryd.func19, Tryd.ntmps19
    go_wp2_with (go_at_call 35; refine (l9One_any _ _ _ _ _ hlo hhi).mono ?_; rintro e wa ⟨rfl, he1⟩; have hc1 := he1.cells; have hz1 : w.heap.size < wa.heap.size := by (have h := he1.size; (try simp only [World.size_alloc, World.size_drew] at h); omega))
    go_ret2
    exact ⟨ret_str_bool' (by unfold mailT; rw [if_neg HB.out]; rfl) h.symm, (by repeat (first | exact Ext.refl _ | assumption | refine Ext.trans ?_ (by assumption) | refine Ext.drew ?_ | refine Ext.drewN ?_ _ | refine Ext.alloc ?_ _))⟩

end Go.Proofs.YtmgpdenofkloeaaDoor
