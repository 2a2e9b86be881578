/- The first compatible kind from a number on: the reference's. -/
import Derived.Test.YtekggbmpogmlcaaDoorWith
namespace Go.Proofs.YtekggbmpogmlcaaDoor
open Go.RowKit
set_option linter.unusedVariables false
set_option linter.unusedSimpArgs false
attribute [local go_sem] ExtOf.cell

theorem firstFrom_hit {ss : List Int} {bs : List Ban} {n0 k : Nat} (h0 : n0 ≤ k) (hk : k < allN ss) (hp : freeOf bs (kindAt ss k) = true) (hno : ∀ i, n0 ≤ i → i < k → freeOf bs (kindAt ss i) = false) : firstFrom ss bs n0 = some (kindAt ss k) := by
  unfold firstFrom; rw [nxt_hit h0 hk hp hno]; rfl
theorem firstFrom_miss {ss : List Int} {bs : List Ban} {n0 : Nat} (hno : ∀ i, n0 ≤ i → i < allN ss → freeOf bs (kindAt ss i) = false) : firstFrom ss bs n0 = none := by
  unfold firstFrom; rw [nxt_miss hno]; rfl
set_option maxRecDepth 100000 in
set_option maxHeartbeats 1000000 in
theorem l6From_any (A : Option Addr) (n c : Nat) (B : Option Addr) (m d : Nat) (ss : List Int) (bs : List Ban) (n0 : Nat) (w : World) (h : TabL w A n B m ss bs) (hs : ∀ s ∈ ss, 1 ≤ s ∧ s ≤ 5) (hl : ss.length ≤ 5) (hf : ∀ b ∈ bs, banFits ss b = true) (h0 : n0 ≤ allN ss) :
    Calls Tryd.prog 25 #[.agg #[.slice A n c, .slice B m d], .int .i64 n0] w (RowPost 3 1 (ints ((firstFrom ss bs n0).getD [])) (firstFrom ss bs n0).isSome w) := by
  have hn := h.sm
  have C1 := Lib.hid (fun (w' : World) (he : Ext w w') => l6All_any A n c B m d ss bs w' (h.ext he) hs hl)
  have C2 := Lib.hid (fun (j : Nat) (w' : World) (he : Ext w w') (hj : j ≤ 1000000) => l6At_any A n c B m d ss bs j w' (h.ext he) hs hj)
  have C3 := Lib.hid (fun (K : Option Addr) (e : Nat) (ks : List Int) (w' : World) (he : Ext w w') (hk : ks.length = n) (hr : Rd w' K n 1 (ints ks)) => l6Free_any A n c B m d ss bs K e ks w' (h.ext he) hf hk hr)
  have hA := allN_small hs hl
  have HKL := Lib.hid (fun i => (kindAt_len ss i).trans h.sl)
  have HH := Lib.hid (fun k => @firstFrom_hit ss bs n0 k)
  have HM := Lib.hid (@firstFrom_miss ss bs n0)
  clear hs hl hf
  generalize firstFrom ss bs n0 = R at *
  generalize hN : allN ss = N at *
  have HNN := Lib.hid hN
  clear hN
  go_enter Tryd.func25, Tryd.ntmps25
  go_wp2
  go_loopw [1] (fun i wr => ∃ k : Nat, n0 ≤ k ∧ k ≤ N ∧ i = .int .i64 k ∧ (∀ i, n0 ≤ i → i < k → freeOf bs (kindAt ss i) = false) ∧ Ext (w.alloc (.cells #[.slice A n c, .slice B m d] 27)) wr) (fun i _ => N - (intOf i).toNat)
  case atStart => exact ⟨n0, Nat.le_refl _, h0, rfl, fun i h1 h2 => by omega, Ext.refl _⟩
  case round =>
    obtain ⟨k, hk0, hkn, rfl, hno, he⟩ := hrel
    have HNO := Lib.hid hno
    clear hno
    have eW := ((Ext.refl w).alloc (.cells #[.slice A n c, .slice B m d] 27)).trans he
    have t0 : wr.cell? ⟨w.heap.size, 0, none⟩ = some (.slice A n c) := he.cell1 (new_cell _ _ _ 0 _ rfl)
    have t1 : wr.cell? ⟨w.heap.size, 1, none⟩ = some (.slice B m d) := he.cell1 (new_cell _ _ _ 1 _ rfl)
    have hz : w.heap.size < wr.heap.size := World.block_lt_of_cell? wr _ t0
    have C1a := Lib.hid (C1.out wr eW)
    by_cases hlt : k < N
    · obtain ⟨K, hK⟩ : ∃ K, kindAt ss k = K := ⟨_, rfl⟩
      have HKK := Lib.hid hK
      clear hK
      have HKN := Lib.hid (show K.length = n by rw [← HKK.out]; exact HKL.out k)
      cases hq : freeOf bs K
      · have HNS := Lib.hid (show ∀ i, n0 ≤ i → i < k + 1 → freeOf bs (kindAt ss i) = false from fun i h1 h2 => by
          by_cases hi : i < k
          · exact HNO.out i h1 hi
          · obtain rfl : i = k := by omega
            rw [HKK.out]; exact hq)
        go_wp2_with (first | (go_at_call 44; refine C1a.out.mono ?_; rintro e wa ⟨rfl, he1⟩; have s0 := he1.cell1 t0; have s1 := he1.cell1 t1; have hza : w.heap.size < wa.heap.size := World.block_lt_of_cell? wa _ s0) | (go_at_call 45; refine (C2.out k wa (eW.trans he1) (by omega)).mono ?_; rintro e wb ⟨g, rfl, ho, he2⟩; rw [HKK.out] at ho; have r0 := he2.cell1 s0; have r1 := he2.cell1 s1; have hzb : w.heap.size < wb.heap.size := World.block_lt_of_cell? wb _ r0; have HO := Lib.hid ho; clear ho) | (go_at_call 32; refine (C3.out _ _ K wb (eW.trans (he1.trans he2)) HKN.out (Rd.own HO.out)).mono ?_; rintro e wc ⟨rfl, he3⟩; rw [hq]))
        go_roundw
        case rel => exact ⟨k + 1, by omega, by omega, by go_num, HNS.out, he.trans (he1.trans (he2.trans he3))⟩
        case measure => simp [intOf]; omega
      · have hR := Lib.hid (HH.out k hk0 hlt (by rw [HKK.out]; exact hq) HNO.out)
        go_wp2_with (first | (go_at_call 44; refine C1a.out.mono ?_; rintro e wa ⟨rfl, he1⟩; have s0 := he1.cell1 t0; have s1 := he1.cell1 t1; have hza : w.heap.size < wa.heap.size := World.block_lt_of_cell? wa _ s0) | (go_at_call 45; refine (C2.out k wa (eW.trans he1) (by omega)).mono ?_; rintro e wb ⟨g, rfl, ho, he2⟩; rw [HKK.out] at ho; have r0 := he2.cell1 s0; have r1 := he2.cell1 s1; have hzb : w.heap.size < wb.heap.size := World.block_lt_of_cell? wb _ r0; have HO := Lib.hid ho; clear ho) | (go_at_call 32; refine (C3.out _ _ K wb (eW.trans (he1.trans he2)) HKN.out (Rd.own HO.out)).mono ?_; rintro e wc ⟨rfl, he3⟩; rw [hq]))
        go_ret2
        refine ⟨some ⟨g, 0, none⟩, n, n, ?_, ?_, eW.trans (he1.trans (he2.trans he3))⟩
        · rw [hR.out]; rfl
        · rw [hR.out, HKK.out]; exact own_low' (he3.own HO.out) (by have := (eW.trans he1).size; omega)
    · obtain rfl : k = N := by omega
      have hR := Lib.hid (HM.out HNO.out)
      go_wp2_with (go_at_call 44; refine C1a.out.mono ?_; rintro e wa ⟨rfl, he1⟩)
      go_ret2
      have E := eW.trans he1
      exact ⟨some ⟨wa.heap.size, 0, none⟩, 0, 0, by rw [hR.out]; rfl, by rw [hR.out]; exact own_empty wa _ _ _ E.size, E.alloc _⟩
end Go.Proofs.YtekggbmpogmlcaaDoor
