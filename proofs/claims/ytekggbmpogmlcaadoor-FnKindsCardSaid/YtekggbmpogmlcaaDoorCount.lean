/- CountCompatible, KindsWith: the program's and the reference's entries. -/
import Derived.Test.YtekggbmpogmlcaaDoorKinds
import Derived.Test.YtekggbmpogmlcaaDoorFrom
import Derived.Test.YtekggbmpogmlcaaDoorCompat
namespace Go.Proofs.YtekggbmpogmlcaaDoor
open Go.RowKit
set_option linter.unusedVariables false
set_option linter.unusedSimpArgs false
attribute [local go_sem] ExtOf.cell

def countR (ss : List Int) (bs : List Ban) : Int := if TabOk ss bs then ((frees ss bs).length : Nat) else 0
theorem countR_yes {ss : List Int} {bs : List Ban} (h : TabOk ss bs = true) : countR ss bs = ((frees ss bs).length : Nat) := by unfold countR; rw [if_pos h]
theorem countR_no {ss : List Int} {bs : List Ban} (h : TabOk ss bs = false) : countR ss bs = 0 := by unfold countR; rw [h]; rfl
theorem with_all (ss : List Int) (bs : List Ban) : cnt (withP ss bs (-1) 0) (allN ss) = (frees ss bs).length := by
  rw [frees_count]
  exact cnt_congr _ (fun i _ => by simp [withP, withQ])
theorem with_some (ss : List Int) (bs : List Ban) (tr v : Int) : cnt (withP ss bs tr v) (allN ss) = ((frees ss bs).filter (withQ tr v)).length := by
  rw [frees_with]; rfl
theorem filter_step_yes {α : Type} {p : α → Bool} {l : List α} {k : Nat} {x : α} (hx : l[k]? = some x) (hp : p x = true) : ((l.take (k + 1)).filter p).length = ((l.take k).filter p).length + 1 := by
  rw [take_snoc hx, List.filter_append, List.length_append]; simp [hp]
theorem filter_step_no {α : Type} {p : α → Bool} {l : List α} {k : Nat} {x : α} (hx : l[k]? = some x) (hp : p x = false) : ((l.take (k + 1)).filter p).length = ((l.take k).filter p).length := by
  rw [take_snoc hx, List.filter_append, List.length_append]; simp [hp]
theorem snd_count {zs : List Kd} {ls : List (List Int)} (h : zs.map Prod.snd = ls) (p : List Int → Bool) : (zs.filter (fun z => p z.2)).length = (ls.filter p).length := by
  rw [← h, List.filter_map, List.length_map]; rfl
set_option maxRecDepth 100000 in
set_option maxHeartbeats 1000000 in
theorem CountCompatibleI_any (A : Option Addr) (n c : Nat) (B : Option Addr) (m d : Nat) (ss : List Int) (bs : List Ban) (w : World) (h : TabL w A n B m ss bs) :
    Calls Tryd.prog 6 #[.agg #[.slice A n c, .slice B m d]] w fun e w' => e = .returned (.tuple #[.int .i64 (countR ss bs), .bool (TabOk ss bs)]) ∧ Ext w w' := by
  have eW := (Ext.refl w).alloc (.cells #[.slice A n c, .slice B m d] 27)
  have C := Lib.hid (isKindTable_any w.heap.size A n c B m d ss bs _ (h.ext eW) (new_cell _ _ _ 0 _ rfl) (new_cell _ _ _ 1 _ rfl))
  cases h1 : TabOk ss bs
  · rw [countR_no h1]
    go_enter Tryd.func6, Tryd.ntmps6
    go_wp2_with (go_at_call 21; refine C.out.mono ?_; rintro e we ⟨rfl, he⟩; rw [h1])
    go_ret2
    exact ⟨rfl, eW.trans he⟩
  · obtain ⟨⟨t1, t2⟩, t3, t4, t5⟩ := TabOk_all h1
    have D := Lib.hid (fun (w' : World) (he : Ext w w') (p0 : w'.cell? ⟨w.heap.size, 0, none⟩ = some (.slice A n c)) (p1 : w'.cell? ⟨w.heap.size, 1, none⟩ = some (.slice B m d)) => kinds_any w.heap.size A n c B m d ss bs w' (h.ext he) p0 p1 t4 t2 t5)
    have HV := Lib.hid (countR_yes h1)
    clear t1 t2 t3 t4 t5
    go_enter Tryd.func6, Tryd.ntmps6
    go_wp2_with (first | (go_at_call 21; refine C.out.mono ?_; rintro e we ⟨rfl, he⟩; rw [h1]; have p0 := he.cell1 (new_cell w #[.slice A n c, .slice B m d] 27 0 _ rfl); have p1 := he.cell1 (new_cell w #[.slice A n c, .slice B m d] 27 1 _ rfl)) | (go_at_call 22; refine (D.out _ (eW.trans he) p0 p1).mono ?_; rintro e wf ⟨O, q, oc, zs, rfl, hzl, hzs, hL, hf⟩; have HX := Lib.hid (show ((frees ss bs).length : Nat) = q by rw [← hzs, List.length_map, hzl]); clear hzl hzs hL))
    go_ret2
    exact ⟨by rw [HV.out, HX.out]; rfl, eW.trans (he.trans hf)⟩
set_option maxRecDepth 100000 in
set_option maxHeartbeats 1000000 in
theorem CountCompatibleS_any (A : Option Addr) (n c : Nat) (B : Option Addr) (m d : Nat) (ss : List Int) (bs : List Ban) (w : World) (h : TabL w A n B m ss bs) :
    Calls Tryd.prog 7 #[.agg #[.slice A n c, .slice B m d]] w fun e w' => e = .returned (.tuple #[.int .i64 (countR ss bs), .bool (TabOk ss bs)]) ∧ Ext w w' := by
  have eW := (Ext.refl w).alloc (.cells #[.slice A n c, .slice B m d] 27)
  have C := Lib.hid (l6Good_any A n c B m d ss bs _ (h.ext eW))
  cases h1 : TabOk ss bs
  · rw [countR_no h1]
    go_enter Tryd.func7, Tryd.ntmps7
    go_wp2_with (go_at_call 23; refine C.out.mono ?_; rintro e we ⟨rfl, he⟩; rw [h1])
    go_ret2
    exact ⟨rfl, eW.trans he⟩
  · obtain ⟨⟨t1, t2⟩, t3, t4, t5⟩ := TabOk_all h1
    have D := Lib.hid (fun (w' : World) (he : Ext w w') => l6With_any A n c B m d ss bs (-1) 0 w' (h.ext he) t4 t2 t5 (by omega))
    have HV := Lib.hid (countR_yes h1)
    have HW := Lib.hid (with_all ss bs)
    clear t1 t2 t3 t4 t5
    go_enter Tryd.func7, Tryd.ntmps7
    go_wp2_with (first | (go_at_call 23; refine C.out.mono ?_; rintro e we ⟨rfl, he⟩; rw [h1]; have p0 := he.cell1 (new_cell w #[.slice A n c, .slice B m d] 27 0 _ rfl); have p1 := he.cell1 (new_cell w #[.slice A n c, .slice B m d] 27 1 _ rfl); have hz : w.heap.size < we.heap.size := World.block_lt_of_cell? we _ p0) | (go_at_call 24; refine (D.out _ (eW.trans he)).mono ?_; rintro e wf ⟨rfl, hf⟩))
    go_ret2
    exact ⟨by rw [HV.out, HW.out]; rfl, eW.trans (he.trans hf)⟩
end Go.Proofs.YtekggbmpogmlcaaDoor
