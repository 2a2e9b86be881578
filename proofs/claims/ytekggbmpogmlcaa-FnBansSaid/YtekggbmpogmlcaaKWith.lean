/- KindsWith: the program's and the reference's entries. -/
import Derived.Test.YtekggbmpogmlcaaCount
namespace Go.Proofs.Ytekggbmpogmlcaa
open Go.RowKit
set_option linter.unusedVariables false
set_option linter.unusedSimpArgs false
attribute [local go_sem] ExtOf.cell

def traitOk (ss : List Int) (tr v : Int) : Bool := inB tr 0 ((ss.length : Int) - 1) && inB v 0 (sizeAt ss tr - 1)
def askW (ss : List Int) (bs : List Ban) (tr v : Int) : Bool := TabOk ss bs && traitOk ss tr v
def withR (ss : List Int) (bs : List Ban) (tr v : Int) : Int := if askW ss bs tr v then (((frees ss bs).filter (withQ tr v)).length : Nat) else 0
theorem withR_yes {ss : List Int} {bs : List Ban} {tr v : Int} (h : askW ss bs tr v = true) : withR ss bs tr v = (((frees ss bs).filter (withQ tr v)).length : Nat) := by unfold withR; rw [if_pos h]
theorem withR_no {ss : List Int} {bs : List Ban} {tr v : Int} (h : askW ss bs tr v = false) : withR ss bs tr v = 0 := by unfold withR; rw [h]; rfl
set_option maxRecDepth 100000 in
set_option maxHeartbeats 1000000 in
theorem l6Value_any (A : Option Addr) (n c : Nat) (B : Option Addr) (m d : Nat) (ss : List Int) (bs : List Ban) (tr v : Int) (w : World) (h : TabL w A n B m ss bs) (hs : ∀ s ∈ ss, 1 ≤ s ∧ s ≤ 5) :
    Calls Try.prog 32 #[.agg #[.slice A n c, .slice B m d], .int .i64 tr, .int .i64 v] w fun e w' => e = .returned (.bool (traitOk ss tr v)) ∧ Ext w w' := by
  have eW := (Ext.refl w).alloc (.cells #[.slice A n c, .slice B m d] 27)
  have hn := h.sm
  have HT := Lib.hid (show traitOk ss tr v = (inB tr 0 ((n : Int) - 1) && inB v 0 (sizeAt ss tr - 1)) by unfold traitOk; rw [h.sl])
  have HS := Lib.hid hs
  clear hs
  by_cases h0 : 0 ≤ tr
  rotate_left
  · have d1 : decide (0 ≤ tr) = false := by simpa using h0
    have hv := Lib.hid (show traitOk ss tr v = false by rw [HT.out, inB_no.2 (by omega)]; rfl)
    go_enter Try.func32, Try.ntmps32
    go_wp2
    go_ret
    exact ⟨ret_bool hv.out.symm, eW⟩
  have d1 : decide (0 ≤ tr) = true := by simpa using h0
  obtain ⟨t, rfl⟩ : ∃ t : Nat, tr = t := ⟨tr.toNat, by omega⟩
  by_cases h1 : t < n
  rotate_left
  · have d2 : decide ((t : Int) < n) = false := by simp; omega
    have d3 : decide (t < n) = false := by simpa using h1
    have hv := Lib.hid (show traitOk ss t v = false by rw [HT.out, inB_no.2 (by omega)]; rfl)
    go_enter Try.func32, Try.ntmps32
    go_wp2
    go_ret
    exact ⟨ret_bool hv.out.symm, eW⟩
  have d2 : decide ((t : Int) < n) = true := by simp; omega
  have d3 : decide (t < n) = true := by simpa using h1
  obtain ⟨b, off, s, rfl, hb, hx, gs⟩ := h.sr.int h1
  have hs5 := HS.out s (List.mem_of_getElem? hx.out)
  have hv := Lib.hid (show traitOk ss t v = inB v 0 (s - 1) by rw [HT.out, inB_iff.2 (by omega), sizeAt_get hx.out]; rfl)
  by_cases h2 : 0 ≤ v
  rotate_left
  · have d4 : decide (0 ≤ v) = false := by simpa using h2
    have hw := Lib.hid (hv.out.trans (inB_no.2 (by omega)))
    go_enter Try.func32, Try.ntmps32
    go_wp2
    go_ret
    exact ⟨ret_bool hw.out.symm, eW⟩
  have d4 : decide (0 ≤ v) = true := by simpa using h2
  cases h3 : decide (v < s)
  all_goals
    have hw := Lib.hid (show traitOk ss t v = _ from hv.out.trans (show inB v 0 (s - 1) = decide (v < s) by rw [Bool.eq_iff_iff, inB_iff, decide_eq_true_eq]; omega))
    rw [h3] at hw
    go_enter Try.func32, Try.ntmps32
    go_wp2
    go_ret
    exact ⟨ret_bool hw.out.symm, eW⟩
set_option maxRecDepth 100000 in
set_option maxHeartbeats 1000000 in
theorem KindsWithS_any (A : Option Addr) (n c : Nat) (B : Option Addr) (m d : Nat) (ss : List Int) (bs : List Ban) (tr v : Int) (w : World) (h : TabL w A n B m ss bs) :
    Calls Try.prog 15 #[.agg #[.slice A n c, .slice B m d], .int .i64 tr, .int .i64 v] w fun e w' => e = .returned (.tuple #[.int .i64 (withR ss bs tr v), .bool (askW ss bs tr v)]) ∧ Ext w w' := by
  have eW := (Ext.refl w).alloc (.cells #[.slice A n c, .slice B m d] 27)
  have C := Lib.hid (l6Good_any A n c B m d ss bs _ (h.ext eW))
  cases h1 : TabOk ss bs
  · have ha : askW ss bs tr v = false := by simp [askW, h1]
    rw [withR_no ha, ha]
    clear ha
    go_enter Try.func15, Try.ntmps15
    go_wp2_with (go_at_call 25; refine C.out.mono ?_; rintro e we ⟨rfl, he⟩; rw [h1])
    go_ret2
    exact ⟨rfl, eW.trans he⟩
  obtain ⟨⟨t1, t2⟩, t3, t4, t5⟩ := TabOk_all h1
  have D := Lib.hid (fun (w' : World) (he : Ext w w') => l6Value_any A n c B m d ss bs tr v w' (h.ext he) t4)
  cases h2 : traitOk ss tr v
  · have ha : askW ss bs tr v = false := by simp [askW, h2]
    rw [withR_no ha, ha]
    clear ha t4 t5
    go_enter Try.func15, Try.ntmps15
    go_wp2_with (first | (go_at_call 25; refine C.out.mono ?_; rintro e we ⟨rfl, he⟩; rw [h1]; have p0 := he.cell1 (new_cell w #[.slice A n c, .slice B m d] 27 0 _ rfl); have p1 := he.cell1 (new_cell w #[.slice A n c, .slice B m d] 27 1 _ rfl); have hz : w.heap.size < we.heap.size := World.block_lt_of_cell? we _ p0) | (go_at_call 32; refine (D.out _ (eW.trans he)).mono ?_; rintro e wf ⟨rfl, hf⟩; rw [h2]))
    go_ret2
    exact ⟨rfl, eW.trans (he.trans hf)⟩
  · have ha : askW ss bs tr v = true := by simp [askW, h1, h2]
    have HV := Lib.hid (withR_yes ha)
    have HW := Lib.hid (with_some ss bs tr v)
    have htr : tr < n := by
      have := h2
      unfold traitOk at this
      rw [Bool.and_eq_true] at this
      have := inB_iff.1 this.1
      have := h.sl
      omega
    have F := Lib.hid (fun (w' : World) (he : Ext w w') => l6With_any A n c B m d ss bs tr v w' (h.ext he) t4 t2 t5 htr)
    rw [ha]
    clear ha t4 t5
    go_enter Try.func15, Try.ntmps15
    go_wp2_with (first | (go_at_call 25; refine C.out.mono ?_; rintro e we ⟨rfl, he⟩; rw [h1]; have p0 := he.cell1 (new_cell w #[.slice A n c, .slice B m d] 27 0 _ rfl); have p1 := he.cell1 (new_cell w #[.slice A n c, .slice B m d] 27 1 _ rfl); have hz : w.heap.size < we.heap.size := World.block_lt_of_cell? we _ p0) | (go_at_call 32; refine (D.out _ (eW.trans he)).mono ?_; rintro e wf ⟨rfl, hf⟩; rw [h2]; have q0 := hf.cell1 p0; have q1 := hf.cell1 p1; have hz2 : w.heap.size < wf.heap.size := World.block_lt_of_cell? wf _ q0) | (go_at_call 26; refine (F.out _ (eW.trans (he.trans hf))).mono ?_; rintro e wg ⟨rfl, hg⟩))
    go_ret2
    exact ⟨by rw [HV.out, HW.out]; rfl, eW.trans (he.trans (hf.trans hg))⟩
set_option maxRecDepth 100000 in
set_option maxHeartbeats 1000000 in
theorem KindsWithI_any (A : Option Addr) (n c : Nat) (B : Option Addr) (m d : Nat) (ss : List Int) (bs : List Ban) (tr v : Int) (w : World) (h : TabL w A n B m ss bs) :
    Calls Try.prog 13 #[.agg #[.slice A n c, .slice B m d], .int .i64 tr, .int .i64 v] w fun e w' => e = .returned (.tuple #[.int .i64 (withR ss bs tr v), .bool (askW ss bs tr v)]) ∧ Ext w w' := by
  have eW := (Ext.refl w).alloc (.cells #[.slice A n c, .slice B m d] 27)
  have C := Lib.hid (isKindTable_any w.heap.size A n c B m d ss bs _ (h.ext eW) (new_cell _ _ _ 0 _ rfl) (new_cell _ _ _ 1 _ rfl))
  have hn := h.sm
  cases h1 : TabOk ss bs
  · have ha : askW ss bs tr v = false := by simp [askW, h1]
    rw [withR_no ha, ha]
    clear ha
    go_enter Try.func13, Try.ntmps13
    go_wp2_with (go_at_call 21; refine C.out.mono ?_; rintro e we ⟨rfl, he⟩; rw [h1])
    go_ret2
    exact ⟨rfl, eW.trans he⟩
  obtain ⟨⟨t1, t2⟩, t3, t4, t5⟩ := TabOk_all h1
  have w1 : IntKind.i64.wrap ((n : Int) - 1) = (n : Int) - 1 := IntWalk.i64_in _ (by omega)
  cases h2 : inB tr 0 ((n : Int) - 1)
  · have ha : askW ss bs tr v = false := by unfold askW traitOk; rw [h.sl, h2]; simp
    rw [withR_no ha, ha]
    clear ha t4 t5
    go_enter Try.func13, Try.ntmps13
    go_wp2_with (first | (go_at_call 21; refine C.out.mono ?_; rintro e we ⟨rfl, he⟩; rw [h1]; have p0 := he.cell1 (new_cell w #[.slice A n c, .slice B m d] 27 0 _ rfl); have p1 := he.cell1 (new_cell w #[.slice A n c, .slice B m d] 27 1 _ rfl); have hz : w.heap.size < we.heap.size := World.block_lt_of_cell? we _ p0) | (go_at_call 29; refine (inRange_any _ _ _ _).mono ?_; rintro e w' ⟨rfl, rfl⟩))
    go_ret2
    exact ⟨rfl, eW.trans he⟩
  have hb2 := inB_iff.1 h2
  obtain ⟨t, rfl⟩ : ∃ t : Nat, tr = t := ⟨tr.toNat, by omega⟩
  have htn : t < n := by omega
  obtain ⟨b, off, s, rfl, hb, hx, gs⟩ := h.sr.int htn
  have hs5 := t4 s (List.mem_of_getElem? hx.out)
  have w2 : IntKind.i64.wrap (s - 1) = s - 1 := IntWalk.i64_in _ (by omega)
  cases h3 : inB v 0 (s - 1)
  · have ha : askW ss bs t v = false := by unfold askW traitOk; rw [sizeAt_get hx.out, h3]; simp
    rw [withR_no ha, ha]
    clear ha t4 t5
    go_enter Try.func13, Try.ntmps13
    go_wp2_with (first | (go_at_call 21; refine C.out.mono ?_; rintro e we ⟨rfl, he⟩; rw [h1]; have p0 := he.cell1 (new_cell w #[.slice (some ⟨b, off, none⟩) n c, .slice B m d] 27 0 _ rfl); have p1 := he.cell1 (new_cell w #[.slice (some ⟨b, off, none⟩) n c, .slice B m d] 27 1 _ rfl); have hz : w.heap.size < we.heap.size := World.block_lt_of_cell? we _ p0; have gs1 := (eW.trans he).cell1 gs; have hbe : b < we.heap.size := World.block_lt_of_cell? we _ gs1) | (go_at_call 29; refine (inRange_any _ _ _ _).mono ?_; rintro e w' ⟨rfl, rfl⟩))
    go_ret2
    exact ⟨rfl, eW.trans he⟩
  · have ha : askW ss bs t v = true := by unfold askW traitOk; rw [h.sl, sizeAt_get hx.out, h3, h2, h1]; rfl
    have HV := Lib.hid (withR_yes ha)
    have D := Lib.hid (fun (w' : World) (he : Ext w w') (p0 : w'.cell? ⟨w.heap.size, 0, none⟩ = some (.slice (some ⟨b, off, none⟩) n c)) (p1 : w'.cell? ⟨w.heap.size, 1, none⟩ = some (.slice B m d)) => kinds_any w.heap.size (some ⟨b, off, none⟩) n c B m d ss bs w' (h.ext he) p0 p1 t4 t2 t5)
    have HN := Lib.hid h.sl
    rw [ha]
    clear ha t4 t5 hs5
    go_enter Try.func13, Try.ntmps13
    go_wp2_with (first | (go_at_call 21; refine C.out.mono ?_; rintro e we ⟨rfl, he⟩; rw [h1]; have p0 := he.cell1 (new_cell w #[.slice (some ⟨b, off, none⟩) n c, .slice B m d] 27 0 _ rfl); have p1 := he.cell1 (new_cell w #[.slice (some ⟨b, off, none⟩) n c, .slice B m d] 27 1 _ rfl); have hz : w.heap.size < we.heap.size := World.block_lt_of_cell? we _ p0; have gs1 := (eW.trans he).cell1 gs; have hbe : b < we.heap.size := World.block_lt_of_cell? we _ gs1) | (go_at_call 29; refine (inRange_any _ _ _ _).mono ?_; rintro e w' ⟨rfl, rfl⟩) | (go_at_call 22; refine (D.out _ (eW.trans he) p0 p1).mono ?_; rintro e wf ⟨O, q, oc, zs, rfl, hzl, hzs, hL, hf⟩))
    have HL := Lib.hid hL
    have HZL := Lib.hid hzl
    have HC := Lib.hid (snd_count hzs (withQ t v))
    have HK := Lib.hid (show ∀ z ∈ zs, z.2.length = n from fun z hz => by
      have : z.2 ∈ frees ss bs := by rw [← hzs]; exact List.mem_map_of_mem hz
      rw [frees_len this]; exact HN.out)
    have hcap := own_cap hL.row
    rw [hzl] at hcap
    unfold maxLen at hcap
    clear hL hzl hzs
    go_loopw [8, 35] (fun s i wr => ∃ j : Nat, j ≤ q ∧ i = .int .i64 j ∧ s = .int .i64 (((zs.take j).filter (fun z => withQ t v z.2)).length : Nat) ∧ Ext wf wr) (fun _ i _ => q - (intOf i).toNat)
    case atStart => exact ⟨0, Nat.zero_le _, rfl, rfl, Ext.refl _⟩
    case round =>
      obtain ⟨j, hjq, rfl, rfl, hej⟩ := hrel
      by_cases hlt : j < q
      · obtain ⟨o, K, e, ks, rfl, ho, hxz, g0, hown⟩ := (HL.out.ext hej).get hlt HZL.out
        have hkn := HK.out _ (List.mem_of_getElem? hxz.out)
        dsimp only at hkn
        rw [hkn] at g0 hown
        obtain ⟨x, hxx⟩ : ∃ x, ks[t]? = some x := ⟨_, List.getElem?_eq_getElem (by omega)⟩
        have hw : withQ t v ks = (x == v) := by
          have d1 : decide ((t : Int) < 0) = false := by simp
          unfold withQ; rw [d1, sizeAt_get hxx]; rfl
        have hY := Lib.hid (fun h => filter_step_yes (p := fun z : Kd => withQ t v z.2) hxz.out h)
        have hN := Lib.hid (fun h => filter_step_no (p := fun z : Kd => withQ t v z.2) hxz.out h)
        have hle : ((zs.take j).filter (fun z => withQ t v z.2)).length ≤ j := by
          have h1 := List.length_filter_le (fun z : Kd => withQ t v z.2) (zs.take j)
          rw [List.length_take] at h1; omega
        have hwl := Rd.own hown
        obtain ⟨b2, off2, x2, rfl, hb2, hx2, g2⟩ := hwl.int htn
        obtain rfl : x = x2 := by have := hxx.symm.trans hx2.out; injection this
        generalize ((zs.take j).filter (fun z => withQ t v z.2)).length = s at *
        have HW := Lib.hid hw
        clear hown hwl hxx hw hkn
        cases hq : (x == v)
        · have hs := Lib.hid (hN.out (show withQ t v ks = false from HW.out.trans hq))
          go_wp2
          go_roundw
          case rel => exact ⟨j + 1, by omega, by go_num, by rw [hs.out], hej⟩
          case measure => simp [intOf]; omega
        · have hs := Lib.hid (hY.out (show withQ t v ks = true from HW.out.trans hq))
          go_wp2
          go_roundw
          case rel => exact ⟨j + 1, by omega, by go_num, by rw [hs.out]; go_num, hej⟩
          case measure => simp [intOf]; omega
      · obtain rfl : j = q := by omega
        have hT := Lib.hid (show (zs.take j) = zs from List.take_of_length_le (Nat.le_of_eq HZL.out))
        rw [hT.out, HC.out]
        go_wp2
        go_ret2
        exact ⟨by rw [HV.out]; rfl, eW.trans (he.trans (hf.trans hej))⟩
end Go.Proofs.Ytekggbmpogmlcaa
