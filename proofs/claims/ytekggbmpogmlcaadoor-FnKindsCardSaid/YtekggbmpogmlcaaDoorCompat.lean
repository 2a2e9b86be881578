/- IsCompatible: the program's and the reference's entry. -/
import Derived.Test.YtekggbmpogmlcaaDoorFreeI
import Derived.Test.YtekggbmpogmlcaaDoorTabLaw1
namespace Go.Proofs.YtekggbmpogmlcaaDoor
open Go.RowKit
set_option linter.unusedVariables false
set_option linter.unusedSimpArgs false
attribute [local go_sem] ExtOf.cell

def compP (ss : List Int) (bs : List Ban) (ks : List Int) : Bool := TabOk ss bs && KindOk ss ks
def compQ (ss : List Int) (bs : List Ban) (ks : List Int) : Bool := compP ss bs ks && freeOf bs ks
set_option maxRecDepth 100000 in
set_option maxHeartbeats 2000000 in
theorem IsCompatibleS_any (A : Option Addr) (n c : Nat) (B : Option Addr) (m d : Nat) (ss : List Int) (bs : List Ban) (K : Option Addr) (l e : Nat) (ks : List Int) (w : World) (h : TabL w A n B m ss bs) (hl : ks.length = l) (hl2 : l ≤ 1048576) (hk : Rd w K l 1 (ints ks)) :
    Calls Tryd.prog 17 #[.agg #[.slice A n c, .slice B m d], .slice K l e] w fun e w' => e = .returned (.tuple #[.bool (compQ ss bs ks), .bool (compP ss bs ks)]) ∧ Ext w w' := by
  have eW := (Ext.refl w).alloc (.cells #[.slice A n c, .slice B m d] 27)
  have C := Lib.hid (l6Good_any A n c B m d ss bs _ (h.ext eW))
  cases h1 : TabOk ss bs
  · have v1 : compP ss bs ks = false := by simp [compP, h1]
    have v2 : compQ ss bs ks = false := by simp [compQ, v1]
    rw [v1, v2]
    go_enter Tryd.func17, Tryd.ntmps17
    go_wp2_with (go_at_call 23; refine C.out.mono ?_; rintro e we ⟨rfl, he⟩; rw [h1])
    go_ret2
    exact ⟨rfl, eW.trans he⟩
  obtain ⟨⟨t1, t2⟩, t3, t4, t5⟩ := TabOk_all h1
  have D := Lib.hid (fun (w' : World) (he : Ext w w') => l6Kind_any A n c B m d ss bs K l e ks w' (h.ext he) t4 hl hl2 (hk.ext he))
  have hn := h.sl
  cases h2 : KindOk ss ks
  · have v1 : compP ss bs ks = false := by simp [compP, h2]
    have v2 : compQ ss bs ks = false := by simp [compQ, v1]
    rw [v1, v2]
    clear t4 t5 hk
    go_enter Tryd.func17, Tryd.ntmps17
    go_wp2_with (first | (go_at_call 23; refine C.out.mono ?_; rintro e we ⟨rfl, he⟩; rw [h1]; have p0 := he.cell1 (new_cell w #[.slice A n c, .slice B m d] 27 0 _ rfl); have p1 := he.cell1 (new_cell w #[.slice A n c, .slice B m d] 27 1 _ rfl)) | (go_at_call 30; refine (D.out _ (eW.trans he)).mono ?_; rintro e wf ⟨rfl, hf⟩; rw [h2]))
    go_ret2
    exact ⟨rfl, eW.trans (he.trans hf)⟩
  · have hln : l = n := by
      have : ks.length = ss.length := by
        simp only [KindOk, Bool.and_eq_true, decide_eq_true_eq] at h2; exact h2.1
      omega
    subst hln
    have F := Lib.hid (fun (w' : World) (he : Ext w w') => l6Free_any A l c B m d ss bs K e ks w' (h.ext he) t5 hl (hk.ext he))
    have v1 : compP ss bs ks = true := by simp [compP, h1, h2]
    have v2 : compQ ss bs ks = freeOf bs ks := by simp [compQ, v1]
    rw [v1, v2]
    clear t4 t5 hk
    go_enter Tryd.func17, Tryd.ntmps17
    go_wp2_with (first | (go_at_call 23; refine C.out.mono ?_; rintro e we ⟨rfl, he⟩; rw [h1]; have p0 := he.cell1 (new_cell w #[.slice A l c, .slice B m d] 27 0 _ rfl); have p1 := he.cell1 (new_cell w #[.slice A l c, .slice B m d] 27 1 _ rfl)) | (go_at_call 30; refine (D.out _ (eW.trans he)).mono ?_; rintro e wf ⟨rfl, hf⟩; rw [h2]; have q0 := hf.cell1 p0; have q1 := hf.cell1 p1) | (go_at_call 32; refine (F.out _ (eW.trans (he.trans hf))).mono ?_; rintro e wg ⟨rfl, hg⟩))
    go_ret2
    exact ⟨rfl, eW.trans (he.trans (hf.trans hg))⟩
set_option maxRecDepth 100000 in
set_option maxHeartbeats 2000000 in
theorem IsCompatibleI_any (A : Option Addr) (n c : Nat) (B : Option Addr) (m d : Nat) (ss : List Int) (bs : List Ban) (K : Option Addr) (l e : Nat) (ks : List Int) (w : World) (h : TabL w A n B m ss bs) (hl : ks.length = l) (hl2 : l ≤ 1048576) (hk : Rd w K l 1 (ints ks)) :
    Calls Tryd.prog 13 #[.agg #[.slice A n c, .slice B m d], .slice K l e] w fun e w' => e = .returned (.tuple #[.bool (compQ ss bs ks), .bool (compP ss bs ks)]) ∧ Ext w w' := by
  have eW := (Ext.refl w).alloc (.cells #[.slice A n c, .slice B m d] 27)
  have C := Lib.hid (isKindTable_any w.heap.size A n c B m d ss bs _ (h.ext eW) (new_cell _ _ _ 0 _ rfl) (new_cell _ _ _ 1 _ rfl))
  cases h1 : TabOk ss bs
  · have v1 : compP ss bs ks = false := by simp [compP, h1]
    have v2 : compQ ss bs ks = false := by simp [compQ, v1]
    rw [v1, v2]
    go_enter Tryd.func13, Tryd.ntmps13
    go_wp2_with (go_at_call 21; refine C.out.mono ?_; rintro e we ⟨rfl, he⟩; rw [h1])
    go_ret2
    exact ⟨rfl, eW.trans he⟩
  obtain ⟨⟨t1, t2⟩, t3, t4, t5⟩ := TabOk_all h1
  have D := Lib.hid (fun (w' : World) (he : Ext w w') (p0 : w'.cell? ⟨w.heap.size, 0, none⟩ = some (.slice A n c)) => isKind_any w.heap.size A n c B m d ss bs K l e ks w' (h.ext he) p0 t4 hl hl2 (hk.ext he))
  have hn := h.sl
  cases h2 : KindOk ss ks
  · have v1 : compP ss bs ks = false := by simp [compP, h2]
    have v2 : compQ ss bs ks = false := by simp [compQ, v1]
    rw [v1, v2]
    clear t4 t5 hk
    go_enter Tryd.func13, Tryd.ntmps13
    go_wp2_with (first | (go_at_call 21; refine C.out.mono ?_; rintro e we ⟨rfl, he⟩; rw [h1]; have p0 := he.cell1 (new_cell w #[.slice A n c, .slice B m d] 27 0 _ rfl); have p1 := he.cell1 (new_cell w #[.slice A n c, .slice B m d] 27 1 _ rfl)) | (go_at_call 26; refine (D.out _ (eW.trans he) p0).mono ?_; rintro e wf ⟨rfl, hf⟩; rw [h2]))
    go_ret2
    exact ⟨rfl, eW.trans (he.trans hf)⟩
  · have hln : l = n := by
      have : ks.length = ss.length := by
        simp only [KindOk, Bool.and_eq_true, decide_eq_true_eq] at h2; exact h2.1
      omega
    subst hln
    have F := Lib.hid (fun (w' : World) (he : Ext w w') (p1 : w'.cell? ⟨w.heap.size, 1, none⟩ = some (.slice B m d)) => compatible_any w.heap.size A l c B m d ss bs K e ks w' (h.ext he) p1 t5 hl (hk.ext he))
    have v1 : compP ss bs ks = true := by simp [compP, h1, h2]
    have v2 : compQ ss bs ks = freeOf bs ks := by simp [compQ, v1]
    rw [v1, v2]
    clear t4 t5 hk
    go_enter Tryd.func13, Tryd.ntmps13
    go_wp2_with (first | (go_at_call 21; refine C.out.mono ?_; rintro e we ⟨rfl, he⟩; rw [h1]; have p0 := he.cell1 (new_cell w #[.slice A l c, .slice B m d] 27 0 _ rfl); have p1 := he.cell1 (new_cell w #[.slice A l c, .slice B m d] 27 1 _ rfl)) | (go_at_call 26; refine (D.out _ (eW.trans he) p0).mono ?_; rintro e wf ⟨rfl, hf⟩; rw [h2]; have q0 := hf.cell1 p0; have q1 := hf.cell1 p1) | (go_at_call 27; refine (F.out _ (eW.trans (he.trans hf)) q1).mono ?_; rintro e wg ⟨rfl, hg⟩))
    go_ret2
    exact ⟨rfl, eW.trans (he.trans (hf.trans hg))⟩
end Go.Proofs.YtekggbmpogmlcaaDoor
