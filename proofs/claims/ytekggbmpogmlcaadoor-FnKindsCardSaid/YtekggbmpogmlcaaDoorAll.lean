/- The number of all kinds; the kind with a number: the reference's. -/
import Derived.Test.YtekggbmpogmlcaaDoorProd
namespace Go.Proofs.YtekggbmpogmlcaaDoor
open Go.RowKit
set_option linter.unusedVariables false
set_option linter.unusedSimpArgs false
attribute [local go_sem] ExtOf.cell

set_option maxRecDepth 100000 in
set_option maxHeartbeats 1000000 in
theorem l6All_any (A : Option Addr) (n c : Nat) (B : Option Addr) (m d : Nat) (ss : List Int) (bs : List Ban) (w : World) (h : TabL w A n B m ss bs) (hs : ∀ s ∈ ss, 1 ≤ s ∧ s ≤ 5) (hl : ss.length ≤ 5) :
    Calls Tryd.prog 44 #[.agg #[.slice A n c, .slice B m d]] w fun e w' => e = .returned (.int .i64 (allN ss : Nat)) ∧ Ext w w' := by
  have hn := h.sm
  have HN := Lib.hid h.sl
  have HS := Lib.hid hs
  have HA := Lib.hid (allN_take_small hs hl)
  have HT := Lib.hid (show ss.take n = ss from List.take_of_length_le (Nat.le_of_eq h.sl))
  clear hs hl
  go_enter Tryd.func44, Tryd.ntmps44
  go_wp2
  go_loopw [3, 4] (fun p i wr => ∃ k : Nat, k ≤ n ∧ i = .int .i64 k ∧ p = .int .i64 (allN (ss.take k) : Nat) ∧ Ext (w.alloc (.cells #[.slice A n c, .slice B m d] 27)) wr) (fun _ i _ => n - (intOf i).toNat)
  case atStart => exact ⟨0, Nat.zero_le _, rfl, rfl, Ext.refl _⟩
  case round =>
    obtain ⟨k, hkn, rfl, rfl, he⟩ := hrel
    have eW := ((Ext.refl w).alloc (.cells #[.slice A n c, .slice B m d] 27)).trans he
    have t0 : wr.cell? ⟨w.heap.size, 0, none⟩ = some (.slice A n c) := he.cell1 (new_cell _ _ _ 0 _ rfl)
    have hz : w.heap.size < wr.heap.size := World.block_lt_of_cell? wr _ t0
    have hp := HA.out k
    by_cases hlt : k < n
    · obtain ⟨b, off, s, rfl, hb, hx, gs⟩ := (h.sr.ext eW).int hlt
      have hs5 := HS.out s (List.mem_of_getElem? hx.out)
      have hnx := Lib.hid (allN_take hx.out)
      have hq := HA.out (k + 1)
      obtain ⟨s, rfl⟩ : ∃ t : Nat, s = t := ⟨s.toNat, by omega⟩
      rw [hnx.out, Int.toNat_natCast] at hq
      generalize allN (ss.take k) = p at *
      obtain ⟨q, hqs⟩ : ∃ q : Nat, q = p * s := ⟨_, rfl⟩
      have HQ := Lib.hid hqs
      rw [← hqs] at hq
      have w1 : IntKind.i64.wrap ((p : Int) * (s : Int)) = (q : Int) := by
        have hm : (p : Int) * (s : Int) = (q : Int) := by rw [hqs, Int.natCast_mul]
        rw [hm]; exact IntWalk.i64_in _ (by omega)
      clear hqs
      go_wp2
      go_roundw
      case rel => exact ⟨k + 1, by omega, by go_num, by rw [hnx.out, Int.toNat_natCast, HQ.out], he⟩
      case measure => simp [intOf]; omega
    · obtain rfl : k = n := by omega
      rw [HT.out]
      go_wp2
      go_ret
      exact ⟨rfl, eW⟩
set_option maxRecDepth 100000 in
set_option maxHeartbeats 1000000 in
theorem l6At_any (A : Option Addr) (n c : Nat) (B : Option Addr) (m d : Nat) (ss : List Int) (bs : List Ban) (j : Nat) (w : World) (h : TabL w A n B m ss bs) (hs : ∀ s ∈ ss, 1 ≤ s ∧ s ≤ 5) (hj : j ≤ 1000000) :
    Calls Tryd.prog 45 #[.agg #[.slice A n c, .slice B m d], .int .i64 j] w fun e w' => ∃ g, e = .returned (.slice (some ⟨g, 0, none⟩) n n) ∧ w'.ownsRow w.heap.size 3 1 (.slice (some ⟨g, 0, none⟩) n n) n (ints (kindAt ss j)) ∧ Ext w w' := by
  obtain ⟨i0, hi, hz0, hz1, hz2⟩ := info_parts (show (Tryd.prog.info? 3).map (fun i => (i.zero, i.size, i.bytes)) = some (some (.int .i64 0), 1, 8) by kernel_rfl)
  have hn := h.sm
  have HN := Lib.hid h.sl
  have HS := Lib.hid hs
  have HT := Lib.hid (show ss.take n = ss from List.take_of_length_le (Nat.le_of_eq h.sl))
  clear hs
  go_enter Tryd.func45, Tryd.ntmps45
  go_wp2_with (at_make; refine wpList_make_full _ rfl _ _ _ rfl (w.heap.size + 1) 3 i0 _ 1 Tryd.underlying24 hi hz0 hz1 _ _ _ _ n rfl rfl rfl rfl (by rw [hz2]; omega) (by unfold maxLen; omega) (by simp only [World.size_alloc]; exact Nat.le_refl _) ?_; intro w1 hown hg)
  simp only [World.size_alloc] at hown
  have e1 : Ext w w1 := ((Ext.refl w).alloc (.cells #[.slice A n c, .slice B m d] 27)).grown hg (fun k hk => by cases hk)
  have p0 : w1.cell? ⟨w.heap.size, 0, none⟩ = some (.slice A n c) := grown_cell (A := none) (m := 0) (c := 0) hg (Off.nil _) (new_cell _ _ _ 0 _ rfl)
  have hz : (madeCells (Value.cells (.int .i64 0)) (n * 1)).toList.length = n := by rw [made_len]; omega
  generalize (madeCells (Value.cells (.int .i64 0)) (n * 1)).toList = Z at hown hz
  have HZ := Lib.hid hz
  clear hz hz0 hz1 hz2 hi hg
  go_loopw [1, 6] (fun q i wr => ∃ (r d : Nat) (iv : Int) (tl : List Int), r ≤ n ∧ d ≤ 1000000 ∧ iv + 1 = r ∧ i = .int .i64 iv ∧ q = .int .i64 d ∧ kindAt (ss.take r) d ++ tl = kindAt ss j ∧ r + tl.length = n ∧ wr.ownsRow (w.heap.size + 1) 3 1 (.slice (some ⟨w.heap.size + 1, 0, none⟩) n n) n (Z.take r ++ ints tl) ∧ Ext w wr ∧ wr.cell? ⟨w.heap.size, 0, none⟩ = some (.slice A n c)) (fun _ i _ => (intOf i + 1).toNat)
  case atStart => exact ⟨n, j, (n : Int) - 1, [], Nat.le_refl _, hj, by omega, by go_num, rfl, by rw [HT.out, List.append_nil], by simp, by rw [List.take_of_length_le (Nat.le_of_eq HZ.out)]; simpa [ints] using hown, e1, p0⟩
  case round =>
    obtain ⟨r, d, iv, tl, hr, hd, hiv, rfl, rfl, hk, htl, ho, he, t0⟩ := hrel
    have hz : w.heap.size < wr.heap.size := World.block_lt_of_cell? wr _ t0
    have HK := Lib.hid hk
    have HTL := Lib.hid htl
    clear hown p0 hk htl
    cases r with
    | zero =>
      obtain rfl : iv = -1 := by omega
      have htl : tl = kindAt ss j := by have := HK.out; rwa [List.take_zero, kindAt_nil, List.nil_append] at this
      simp only [List.take_zero, List.nil_append] at ho
      rw [htl] at ho
      have HO := Lib.hid ho
      clear ho
      go_wp2
      go_ret
      exact ⟨_, rfl, own_low' HO.out (by omega), he⟩
    | succ r =>
      obtain rfl : iv = (r : Int) := by omega
      have hrn : r < n := by omega
      obtain ⟨b, off, s, rfl, hb, hx, gs0⟩ := h.sr.int hrn
      have gs := he.cell1 gs0
      clear gs0
      have hs5 := HS.out s (List.mem_of_getElem? hx.out)
      obtain ⟨s, rfl⟩ : ∃ t : Nat, s = t := ⟨s.toNat, by omega⟩
      have hs1 : 1 ≤ s ∧ s ≤ 5 := by omega
      have hf1 := ho.frozenAt r
      obtain ⟨u1, hu1⟩ := own_cell (j := r) ho (by omega)
      have hlb : w.heap.size + 1 < wr.heap.size := (ho.lt _ rfl).2
      have HO := Lib.hid ho
      clear ho hs5
      have m1 : Int.tmod (d : Int) (s : Int) = ((d % s : Nat) : Int) := (Int.ofNat_tmod d s).symm
      have m2 : Int.tdiv (d : Int) (s : Int) = ((d / s : Nat) : Int) := (Int.ofNat_tdiv d s).symm
      have b1 : d % s < s := Nat.mod_lt _ (by omega)
      have b2 : d / s ≤ d := Nat.div_le_self _ _
      obtain ⟨md, hmd⟩ : ∃ x, d % s = x := ⟨_, rfl⟩
      obtain ⟨qd, hqd⟩ : ∃ x, d / s = x := ⟨_, rfl⟩
      rw [hmd] at m1 b1
      rw [hqd] at m2 b2
      have HMD := Lib.hid hmd
      have HQD := Lib.hid hqd
      clear hmd hqd
      go_wp2
      go_roundw
      case rel =>
        have hst := HO.out.stored r (.int .i64 md)
        have hx' := kind_next (j := qd) hx.out (show md < (s : Int).toNat by simpa using b1)
        have hdd : qd * s + md = d := by rw [← HQD.out, ← HMD.out, Nat.mul_comm]; exact Nat.div_add_mod d s
        refine ⟨r, qd, (r : Int) - 1, (md : Int) :: tl, by omega, by omega, by omega, by go_num, rfl, ?_, by have := HTL.out; simp; omega, ?_, he.set (by show w.heap.size ≤ w.heap.size + 1; omega) _, grown_cell (A := some ⟨w.heap.size + 1, 0, none⟩) (m := 0) (c := 0) hst.2 (Off.ne (by omega)) t0⟩
        · rw [Int.toNat_natCast, hdd] at hx'
          rw [← HK.out, hx', List.append_assoc]; rfl
        · have e2 : (Z.take (r + 1) ++ ints tl).set r (.int .i64 md) = Z.take r ++ ints ((md : Int) :: tl) := by
            rw [List.take_succ_eq_append_getElem (by rw [HZ.out]; exact hrn), List.append_assoc, List.set_append_right _ _ (by rw [List.length_take]; omega), List.length_take, Nat.min_eq_left (by rw [HZ.out]; omega)]
            simp [ints]
          rw [← e2]; exact hst.1
      case measure => simp [intOf]
end Go.Proofs.YtekggbmpogmlcaaDoor
