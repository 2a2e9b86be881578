/- FirstKind, NextKind: the program's and the reference's entries. -/
import Derived.Test.YtekggbmpogmlcaaDoorCount
namespace Go.Proofs.YtekggbmpogmlcaaDoor
open Go.RowKit
set_option linter.unusedVariables false
set_option linter.unusedSimpArgs false
attribute [local go_sem] ExtOf.cell

def firstK (ss : List Int) (bs : List Ban) : Option (List Int) := if TabOk ss bs then firstFrom ss bs 0 else none
theorem firstK_yes {ss : List Int} {bs : List Ban} (h : TabOk ss bs = true) : firstK ss bs = firstFrom ss bs 0 := by unfold firstK; rw [if_pos h]
theorem firstK_no {ss : List Int} {bs : List Ban} (h : TabOk ss bs = false) : firstK ss bs = none := by unfold firstK; rw [h]; rfl
theorem firstFrom_len (ss : List Int) (bs : List Ban) (n0 : Nat) : ((firstFrom ss bs n0).getD []).length ≤ ss.length := by
  unfold firstFrom
  cases nxt (fun i => freeOf bs (kindAt ss i)) n0 (allN ss) with
  | none => exact Nat.zero_le _
  | some i => exact Nat.le_of_eq (kindAt_len ss i)
theorem firstK_len (ss : List Int) (bs : List Ban) : ((firstK ss bs).getD []).length ≤ 10000 := by
  cases h : TabOk ss bs
  · rw [firstK_no h]; exact Nat.zero_le _
  · obtain ⟨⟨_, t2⟩, _⟩ := TabOk_all h
    rw [firstK_yes h]; have := firstFrom_len ss bs 0; omega
def OptPost (R : Option (List Int)) (w : World) : Ending → World → Prop := RowPost 3 1 (ints (R.getD [])) R.isSome w
theorem OptPost.none {w w' : World} (he : Ext w w') : OptPost none w (.returned (.tuple #[.slice none 0 0, .bool false])) w' := ⟨Option.none, 0, 0, rfl, own_nil _ _ _ _, he⟩
theorem OptPost.empty {w w' : World} (he : Ext w w') : OptPost Option.none w (.returned (.tuple #[.slice (some ⟨w'.heap.size, 0, Option.none⟩) 0 0, .bool false])) (w'.alloc (.cells #[] 3)) := ⟨_, 0, 0, rfl, own_empty _ _ _ _ he.size, he.alloc _⟩
theorem OptPost.some {w w' : World} {A : Option Addr} {n c : Nat} {l : List Int} (ho : w'.ownsRow w.heap.size 3 1 (.slice A n c) n (ints l)) (he : Ext w w') : OptPost (some l) w (.returned (.tuple #[.slice A n c, .bool true])) w' := ⟨A, n, c, rfl, ho, he⟩
theorem OptPost.row {w w0 w' : World} {R : Option (List Int)} {e : Ending} (h : OptPost R w0 e w') (he : Ext w w0) : OptPost R w e w' := by
  obtain ⟨A, m, c, h1, h2, h3⟩ := h
  exact ⟨A, m, c, h1, own_low' h2 he.size, he.trans h3⟩
set_option maxRecDepth 100000 in
set_option maxHeartbeats 1000000 in
theorem FirstKindS_any (A : Option Addr) (n c : Nat) (B : Option Addr) (m d : Nat) (ss : List Int) (bs : List Ban) (w : World) (h : TabL w A n B m ss bs) :
    Calls Tryd.prog 11 #[.agg #[.slice A n c, .slice B m d]] w (OptPost (firstK ss bs) w) := by
  have eW := (Ext.refl w).alloc (.cells #[.slice A n c, .slice B m d] 27)
  have C := Lib.hid (l6Good_any A n c B m d ss bs _ (h.ext eW))
  cases h1 : TabOk ss bs
  · rw [firstK_no h1]
    go_enter Tryd.func11, Tryd.ntmps11
    go_wp2_with (go_at_call 23; refine C.out.mono ?_; rintro e we ⟨rfl, he⟩; rw [h1])
    go_ret2
    exact OptPost.empty (eW.trans he)
  · obtain ⟨⟨t1, t2⟩, t3, t4, t5⟩ := TabOk_all h1
    have D := Lib.hid (fun (w' : World) (he : Ext w w') => l6From_any A n c B m d ss bs 0 w' (h.ext he) t4 t2 t5 (Nat.zero_le _))
    rw [firstK_yes h1]
    generalize firstFrom ss bs 0 = R at *
    clear t1 t2 t3 t4 t5
    go_enter Tryd.func11, Tryd.ntmps11
    go_wp2_with (first | (go_at_call 23; refine C.out.mono ?_; rintro e we ⟨rfl, he⟩; rw [h1]; have p0 := he.cell1 (new_cell w #[.slice A n c, .slice B m d] 27 0 _ rfl); have p1 := he.cell1 (new_cell w #[.slice A n c, .slice B m d] 27 1 _ rfl); have hz : w.heap.size < we.heap.size := World.block_lt_of_cell? we _ p0) | (go_at_call 25; refine (D.out _ (eW.trans he)).mono ?_; rintro e wf ⟨X, x, xc, rfl, ho, hf⟩))
    go_ret2
    exact ⟨X, x, xc, rfl, own_low' ho (eW.trans he).size, eW.trans (he.trans hf)⟩
set_option maxRecDepth 100000 in
set_option maxHeartbeats 1000000 in
theorem FirstKindI_any (A : Option Addr) (n c : Nat) (B : Option Addr) (m d : Nat) (ss : List Int) (bs : List Ban) (w : World) (h : TabL w A n B m ss bs) :
    Calls Tryd.prog 10 #[.agg #[.slice A n c, .slice B m d]] w (OptPost (firstK ss bs) w) := by
  have eW := (Ext.refl w).alloc (.cells #[.slice A n c, .slice B m d] 27)
  have C := Lib.hid (isKindTable_any w.heap.size A n c B m d ss bs _ (h.ext eW) (new_cell _ _ _ 0 _ rfl) (new_cell _ _ _ 1 _ rfl))
  cases h1 : TabOk ss bs
  · rw [firstK_no h1]
    go_enter Tryd.func10, Tryd.ntmps10
    go_wp2_with (go_at_call 21; refine C.out.mono ?_; rintro e we ⟨rfl, he⟩; rw [h1])
    go_ret2
    exact OptPost.none (eW.trans he)
  · obtain ⟨⟨t1, t2⟩, t3, t4, t5⟩ := TabOk_all h1
    have D := Lib.hid (fun (w' : World) (he : Ext w w') (p0 : w'.cell? ⟨w.heap.size, 0, none⟩ = some (.slice A n c)) (p1 : w'.cell? ⟨w.heap.size, 1, none⟩ = some (.slice B m d)) => kinds_any w.heap.size A n c B m d ss bs w' (h.ext he) p0 p1 t4 t2 t5)
    rw [firstK_yes h1]
    have HR := Lib.hid (frees_first ss bs)
    generalize firstFrom ss bs 0 = R at *
    clear t1 t2 t3 t4 t5
    rcases hfr : frees ss bs with _ | ⟨l0, lr⟩
    · rw [hfr] at D HR
      obtain rfl : R = none := HR.out.symm
      go_enter Tryd.func10, Tryd.ntmps10
      go_wp2_with (first | (go_at_call 21; refine C.out.mono ?_; rintro e we ⟨rfl, he⟩; rw [h1]; have p0 := he.cell1 (new_cell w #[.slice A n c, .slice B m d] 27 0 _ rfl); have p1 := he.cell1 (new_cell w #[.slice A n c, .slice B m d] 27 1 _ rfl)) | (go_at_call 22; refine (D.out _ (eW.trans he) p0 p1).mono ?_; rintro e wf ⟨O, q, oc, zs, rfl, hzl, hzs, hL, hf⟩; (obtain rfl : q = 0 := by rw [← hzl, ← List.length_map (f := Prod.snd), hzs]; rfl); clear hzl hzs hL))
      go_ret2
      exact OptPost.none (eW.trans (he.trans hf))
    · rw [hfr] at D HR
      obtain rfl : R = some l0 := HR.out.symm
      go_enter Tryd.func10, Tryd.ntmps10
      go_wp2_with (first | (go_at_call 21; refine C.out.mono ?_; rintro e we ⟨rfl, he⟩; rw [h1]; have p0 := he.cell1 (new_cell w #[.slice A n c, .slice B m d] 27 0 _ rfl); have p1 := he.cell1 (new_cell w #[.slice A n c, .slice B m d] 27 1 _ rfl)) | (go_at_call 22; refine (D.out _ (eW.trans he) p0 p1).mono ?_; rintro e wf ⟨O, q, oc, zs, rfl, hzl, hzs, hL, hf⟩; (have hq : 0 < q := by rw [← hzl, ← List.length_map (f := Prod.snd), hzs]; simp); (obtain ⟨o, K, e, ks, rfl, ho, hxz, g0, hown⟩ := hL.get hq hzl); (obtain rfl : ks = l0 := by have := snd_get hzs hxz.out; injection this with this; exact this.symm); have HO := Lib.hid hown; (have hq0 : decide ((q : Int) = 0) = false := by simp; omega); (have hq1 : ((q : Int) == 0) = false := by simp; omega); clear hzl hzs hL hown hxz))
      go_ret2
      exact OptPost.some (own_low' HO.out (eW.trans he).size) (eW.trans (he.trans hf))
end Go.Proofs.YtekggbmpogmlcaaDoor
