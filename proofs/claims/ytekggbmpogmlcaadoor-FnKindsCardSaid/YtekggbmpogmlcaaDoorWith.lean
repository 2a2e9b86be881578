/- How many compatible kinds there are (with a value); the first one from a number on: the reference's. -/
import Derived.Test.YtekggbmpogmlcaaDoorAll
namespace Go.Proofs.YtekggbmpogmlcaaDoor
open Go.RowKit
set_option linter.unusedVariables false
set_option linter.unusedSimpArgs false
attribute [local go_sem] ExtOf.cell

/-- Kind i is compatible and has a value of a trait (of any, for a trait below 0). -/
def withQ (tr v : Int) (x : List Int) : Bool := decide (tr < 0) || sizeAt x tr == v
def withP (ss : List Int) (bs : List Ban) (tr v : Int) (i : Nat) : Bool := withQ tr v (kindAt ss i) && freeOf bs (kindAt ss i)
set_option maxRecDepth 100000 in
set_option maxHeartbeats 1000000 in
theorem l6With_any (A : Option Addr) (n c : Nat) (B : Option Addr) (m d : Nat) (ss : List Int) (bs : List Ban) (tr v : Int) (w : World) (h : TabL w A n B m ss bs) (hs : ∀ s ∈ ss, 1 ≤ s ∧ s ≤ 5) (hl : ss.length ≤ 5) (hf : ∀ b ∈ bs, banFits ss b = true) (ht : tr < n) :
    Calls Tryd.prog 24 #[.agg #[.slice A n c, .slice B m d], .int .i64 tr, .int .i64 v] w fun e w' => e = .returned (.int .i64 (cnt (withP ss bs tr v) (allN ss) : Nat)) ∧ Ext w w' := by
  have hn := h.sm
  have HN := Lib.hid h.sl
  have C1 := Lib.hid (fun (w' : World) (he : Ext w w') => l6All_any A n c B m d ss bs w' (h.ext he) hs hl)
  have C2 := Lib.hid (fun (j : Nat) (w' : World) (he : Ext w w') (hj : j ≤ 1000000) => l6At_any A n c B m d ss bs j w' (h.ext he) hs hj)
  have C3 := Lib.hid (fun (K : Option Addr) (e : Nat) (ks : List Int) (w' : World) (he : Ext w w') (hk : ks.length = n) (hr : Rd w' K n 1 (ints ks)) => l6Free_any A n c B m d ss bs K e ks w' (h.ext he) hf hk hr)
  have hA := allN_small hs hl
  have HKL := Lib.hid (fun i => (kindAt_len ss i).trans h.sl)
  clear hs hl hf
  generalize hN : allN ss = N at *
  have HNN := Lib.hid hN
  clear hN
  go_enter Tryd.func24, Tryd.ntmps24
  go_wp2
  go_loopw [7, 8] (fun q i wr => ∃ k : Nat, k ≤ N ∧ i = .int .i64 k ∧ q = .int .i64 (cnt (withP ss bs tr v) k : Nat) ∧ Ext (w.alloc (.cells #[.slice A n c, .slice B m d] 27)) wr) (fun _ i _ => N - (intOf i).toNat)
  case atStart => exact ⟨0, Nat.zero_le _, rfl, rfl, Ext.refl _⟩
  case round =>
    obtain ⟨k, hkn, rfl, rfl, he⟩ := hrel
    have eW := ((Ext.refl w).alloc (.cells #[.slice A n c, .slice B m d] 27)).trans he
    have t0 : wr.cell? ⟨w.heap.size, 0, none⟩ = some (.slice A n c) := he.cell1 (new_cell _ _ _ 0 _ rfl)
    have t1 : wr.cell? ⟨w.heap.size, 1, none⟩ = some (.slice B m d) := he.cell1 (new_cell _ _ _ 1 _ rfl)
    have hz : w.heap.size < wr.heap.size := World.block_lt_of_cell? wr _ t0
    have hcl := cnt_le (withP ss bs tr v) k
    by_cases hlt : k < N
    · have hy := Lib.hid (cnt_yes (p := withP ss bs tr v) (h := k))
      have hno := Lib.hid (cnt_no (p := withP ss bs tr v) (h := k))
      have HP := Lib.hid (show withP ss bs tr v k = (withQ tr v (kindAt ss k) && freeOf bs (kindAt ss k)) from rfl)
      generalize cnt (withP ss bs tr v) k = q at *
      generalize hK : kindAt ss k = K at *
      have HKK := Lib.hid hK
      clear hK
      have C1a := Lib.hid (C1.out wr eW)
      have HKN := Lib.hid (show K.length = n by rw [← HKK.out]; exact HKL.out k)
      rcases Int.lt_or_le tr 0 with ht0 | ht0
      · have hd := HP.out
        have d1 : decide (tr < 0) = true := by simpa using ht0
        rw [show withQ tr v K = true by unfold withQ; rw [d1]; rfl, Bool.true_and] at hd
        have HD := Lib.hid hd
        clear hd
        cases hq : freeOf bs K
        · have hs := Lib.hid (hno.out (HD.out.trans hq))
          go_wp2_with (first | (go_at_call 44; refine C1a.out.mono ?_; rintro e wa ⟨rfl, he1⟩; have s0 := he1.cell1 t0; have s1 := he1.cell1 t1; have hza : w.heap.size < wa.heap.size := World.block_lt_of_cell? wa _ s0) | (go_at_call 45; refine (C2.out k wa (eW.trans he1) (by omega)).mono ?_; rintro e wb ⟨g, rfl, ho, he2⟩; rw [HKK.out] at ho; have r0 := he2.cell1 s0; have r1 := he2.cell1 s1; have hzb : w.heap.size < wb.heap.size := World.block_lt_of_cell? wb _ r0; have HO := Lib.hid ho; clear ho) | (go_at_call 32; refine (C3.out _ _ K wb (eW.trans (he1.trans he2)) HKN.out (Rd.own HO.out)).mono ?_; rintro e wc ⟨rfl, he3⟩; rw [hq]))
          go_roundw
          case rel => exact ⟨k + 1, by omega, by go_num, by rw [hs.out], he.trans (he1.trans (he2.trans he3))⟩
          case measure => simp [intOf]; omega
        · have hs := Lib.hid (hy.out (HD.out.trans hq))
          go_wp2_with (first | (go_at_call 44; refine C1a.out.mono ?_; rintro e wa ⟨rfl, he1⟩; have s0 := he1.cell1 t0; have s1 := he1.cell1 t1; have hza : w.heap.size < wa.heap.size := World.block_lt_of_cell? wa _ s0) | (go_at_call 45; refine (C2.out k wa (eW.trans he1) (by omega)).mono ?_; rintro e wb ⟨g, rfl, ho, he2⟩; rw [HKK.out] at ho; have r0 := he2.cell1 s0; have r1 := he2.cell1 s1; have hzb : w.heap.size < wb.heap.size := World.block_lt_of_cell? wb _ r0; have HO := Lib.hid ho; clear ho) | (go_at_call 32; refine (C3.out _ _ K wb (eW.trans (he1.trans he2)) HKN.out (Rd.own HO.out)).mono ?_; rintro e wc ⟨rfl, he3⟩; rw [hq]))
          go_roundw
          case rel => exact ⟨k + 1, by omega, by go_num, by rw [hs.out]; go_num, he.trans (he1.trans (he2.trans he3))⟩
          case measure => simp [intOf]; omega
      · obtain ⟨t, rfl⟩ : ∃ t : Nat, tr = t := ⟨tr.toNat, by omega⟩
        have htn : t < K.length := by rw [HKN.out]; omega
        obtain ⟨x, hx⟩ : ∃ x, K[t]? = some x := ⟨_, List.getElem?_eq_getElem htn⟩
        have d1 : decide ((t : Int) < 0) = false := by simp
        have hw : withQ t v K = (x == v) := by unfold withQ; rw [d1, sizeAt_get hx]; rfl
        have HX := Lib.hid (ints_get hx)
        have hd := HP.out
        rw [hw] at hd
        have HD := Lib.hid hd
        have htn2 : t < n := by omega
        clear hd hw hx htn ht0
        rcases chain2 (x == v) (freeOf bs K) with h6 | ⟨h6, h7⟩ | ⟨h6, h7⟩
        · have hs := Lib.hid (hno.out (HD.out.trans (by rw [h6]; rfl)))
          go_wp2_with (first | (go_at_call 44; refine C1a.out.mono ?_; rintro e wa ⟨rfl, he1⟩; have s0 := he1.cell1 t0; have s1 := he1.cell1 t1; have hza : w.heap.size < wa.heap.size := World.block_lt_of_cell? wa _ s0) | (go_at_call 45; refine (C2.out k wa (eW.trans he1) (by omega)).mono ?_; rintro e wb ⟨g, rfl, ho, he2⟩; rw [HKK.out] at ho; have r0 := he2.cell1 s0; have r1 := he2.cell1 s1; have hzb : w.heap.size < wb.heap.size := World.block_lt_of_cell? wb _ r0; have HO := Lib.hid ho; have q0 := own_at HO.out (j := t) HX.out; have hgg : g < wb.heap.size := World.block_lt_of_cell? wb _ q0; clear ho))
          go_roundw
          case rel => exact ⟨k + 1, by omega, by go_num, by rw [hs.out], he.trans (he1.trans he2)⟩
          case measure => simp [intOf]; omega
        · have hs := Lib.hid (hno.out (HD.out.trans (by rw [h6, h7]; rfl)))
          go_wp2_with (first | (go_at_call 44; refine C1a.out.mono ?_; rintro e wa ⟨rfl, he1⟩; have s0 := he1.cell1 t0; have s1 := he1.cell1 t1; have hza : w.heap.size < wa.heap.size := World.block_lt_of_cell? wa _ s0) | (go_at_call 45; refine (C2.out k wa (eW.trans he1) (by omega)).mono ?_; rintro e wb ⟨g, rfl, ho, he2⟩; rw [HKK.out] at ho; have r0 := he2.cell1 s0; have r1 := he2.cell1 s1; have hzb : w.heap.size < wb.heap.size := World.block_lt_of_cell? wb _ r0; have HO := Lib.hid ho; have q0 := own_at HO.out (j := t) HX.out; have hgg : g < wb.heap.size := World.block_lt_of_cell? wb _ q0; clear ho) | (go_at_call 32; refine (C3.out _ _ K wb (eW.trans (he1.trans he2)) HKN.out (Rd.own HO.out)).mono ?_; rintro e wc ⟨rfl, he3⟩; rw [h7]))
          go_roundw
          case rel => exact ⟨k + 1, by omega, by go_num, by rw [hs.out], he.trans (he1.trans (he2.trans he3))⟩
          case measure => simp [intOf]; omega
        · have hs := Lib.hid (hy.out (HD.out.trans (by rw [h6, h7]; rfl)))
          go_wp2_with (first | (go_at_call 44; refine C1a.out.mono ?_; rintro e wa ⟨rfl, he1⟩; have s0 := he1.cell1 t0; have s1 := he1.cell1 t1; have hza : w.heap.size < wa.heap.size := World.block_lt_of_cell? wa _ s0) | (go_at_call 45; refine (C2.out k wa (eW.trans he1) (by omega)).mono ?_; rintro e wb ⟨g, rfl, ho, he2⟩; rw [HKK.out] at ho; have r0 := he2.cell1 s0; have r1 := he2.cell1 s1; have hzb : w.heap.size < wb.heap.size := World.block_lt_of_cell? wb _ r0; have HO := Lib.hid ho; have q0 := own_at HO.out (j := t) HX.out; have hgg : g < wb.heap.size := World.block_lt_of_cell? wb _ q0; clear ho) | (go_at_call 32; refine (C3.out _ _ K wb (eW.trans (he1.trans he2)) HKN.out (Rd.own HO.out)).mono ?_; rintro e wc ⟨rfl, he3⟩; rw [h7]))
          go_roundw
          case rel => exact ⟨k + 1, by omega, by go_num, by rw [hs.out]; go_num, he.trans (he1.trans (he2.trans he3))⟩
          case measure => simp [intOf]; omega
    · obtain rfl : k = N := by omega
      have C1a := Lib.hid (C1.out wr eW)
      go_wp2_with (go_at_call 44; refine C1a.out.mono ?_; rintro e wa ⟨rfl, he1⟩)
      go_ret
      exact ⟨rfl, eW.trans he1⟩
end Go.Proofs.YtekggbmpogmlcaaDoor
