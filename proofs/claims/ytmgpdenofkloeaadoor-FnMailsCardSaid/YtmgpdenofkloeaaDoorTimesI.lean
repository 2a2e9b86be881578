/- slices.Repeat of one number, ten times. -/
import Derived.Test.YtmgpdenofkloeaaDoorMailX
import Derived.Test.YtmgpdenofkloeaaDoorIdx
import Derived.Laws.CopyOwn
import Derived.Deep.RegionLaw

import Derived.IntWalk
namespace Go.Proofs.YtmgpdenofkloeaaDoor
open Go.RowKit
set_option linter.unusedVariables false
set_option linter.unusedSimpArgs false
attribute [local go_sem] ExtOf.cell

set_option maxRecDepth 100000 in
set_option maxHeartbeats 1000000 in
theorem Mul_any (w : World) : Calls Tryd.prog 49 #[.int .u64 1, .int .u64 10] w fun e w' => e = .returned (.tuple #[.int .u64 0, .int .u64 10]) ∧ w = w' := by
  go_enter Tryd.func49, Tryd.ntmps49
  go_wp2
  go_ret2
  exact ⟨by kernel_rfl, rfl⟩

def rep10 (v : Int) (k : Nat) : List Value := List.replicate k (.int .i64 v) ++ List.replicate (10 - k) (.int .i64 0)
theorem rep10_len {v : Int} {k : Nat} (h : k ≤ 10 := by omega) : (rep10 v k).length = 10 := by simp [rep10]; omega
theorem one_at {w : World} {a : Nat} {v : Value} (h : w.cell? ⟨a, 0, none⟩ = some v) : ∀ j u, [v][j]? = some u → w.cell? ((⟨a, 0, none⟩ : Addr).add j) = some u := by
  intro j u hu
  have hj : j = 0 := by
    have := (List.getElem?_eq_some_iff.1 hu).1
    simpa using this
  subst hj
  simp at hu; subst hu
  rw [Addr.add_zero']; exact h
theorem made10 : (madeCells (Value.cells (.int .i64 0)) (10 * 1)).toList = List.replicate 10 (Value.int .i64 0) := by kernel_rfl
theorem made_rep {w w1 : World} (v : Int) (hown : w1.ownsRow w.heap.size 3 1 (.slice (some ⟨w.heap.size, 0, none⟩) 10 10) 10 (madeCells (Value.cells (.int .i64 0)) (10 * 1)).toList) :
    w1.heap[w.heap.size]? = some (.cells (rep10 v 0).toArray 3 (0, 0)) := by
  rcases hown.2 with ⟨h1, _⟩ | ⟨g, cap, cur, h1, h2, h3, h4, h5, h6, h7⟩
  · cases h1
  · injection h1 with hA _ hc
    injection hA with hA
    injection hA with hg _
    subst hg; subst hc
    have e : cur.toList = rep10 v 0 := by
      rw [List.take_of_length_le (by simpa using Nat.le_of_eq h6)] at h7
      rw [h7, made10]; rfl
    rw [h3, ← e]
theorem own_rep {w w1 : World} {v : Int} (h : w1.heap[w.heap.size]? = some (.cells (rep10 v 10).toArray 3 (0, 0))) : w1.ownsRow w.heap.size 3 1 (.slice (some ⟨w.heap.size, 0, none⟩) 10 10) 10 (ints (List.replicate 10 v)) :=
  ⟨by simp [ints], .inr ⟨w.heap.size, 10, (rep10 v 10).toArray, rfl, Nat.le_refl _, h, Nat.le_refl _, by unfold maxLen; omega, by simp [rep10], by simp [rep10, ints]⟩⟩
theorem rep_at {w : World} {g k m : Nat} {v : Int} {T : TypeId} {cs : List Value} (h : w.heap[g]? = some (.cells (rep10 v k).toArray T (0, 0))) (hm : m ≤ k) (hcs : cs = List.replicate m (.int .i64 v)) :
    ∀ j u, cs[j]? = some u → w.cell? ((⟨g, 0, none⟩ : Addr).add j) = some u := by
  intro j u hu
  subst hcs
  have hj : j < m := by have := (List.getElem?_eq_some_iff.1 hu).1; simpa using this
  have e : (⟨g, 0, none⟩ : Addr).add j = ⟨g, j, none⟩ := by unfold Addr.add; split <;> simp_all
  rw [e, cell_of_row _ _ _ _ _ _ h]
  have : (rep10 v k)[j]? = some (.int .i64 v) := by
    unfold rep10
    rw [List.getElem?_append_left (by rw [List.length_replicate]; omega), List.getElem?_replicate, if_pos (by omega)]
  have hu' : u = .int .i64 v := by
    rw [List.getElem?_replicate, if_pos hj] at hu; injection hu with hu; exact hu.symm
  rw [hu']
  first | exact this | simpa using this
theorem splice_rep (v : Int) {k m : Nat} (h : k + m ≤ 10) : splice (rep10 v k) k (List.replicate m (.int .i64 v)) = rep10 v (k + m) := by
  unfold splice rep10
  rw [List.length_replicate, List.take_append_of_le_length (by simp), List.drop_append, List.drop_replicate, List.drop_replicate, List.take_replicate, List.length_replicate]
  rw [Nat.min_self, show k - (k + m) = 0 by omega, show k + m - k = m by omega, show 10 - k - m = 10 - (k + m) by omega, List.replicate_zero, List.nil_append, ← List.append_assoc, List.replicate_append_replicate]
theorem min_facts {k : Nat} (h1 : 1 ≤ k) (h2 : k < 10) : ∃ m, m = Nat.min k (10 - k) ∧ m ≤ k ∧ k + m ≤ 10 ∧ 1 ≤ m := by
  have e : Nat.min k (10 - k) = min k (10 - k) := rfl
  rw [e]
  exact ⟨_, rfl, by omega, by omega, by omega⟩
theorem intSize : (Tryd.prog.info? 3).map (·.size) = some 1 := by kernel_rfl

set_option maxRecDepth 100000 in
set_option maxHeartbeats 400000 in
theorem Repeat_any (a : Nat) (v : Int) (w : World) (hc : w.cell? ⟨a, 0, none⟩ = some (.int .i64 v)) :
    Calls Tryd.prog 45 #[.slice (some ⟨a, 0, none⟩) 1 1, .int .i64 10] w (NewPost 3 1 10 (ints (List.replicate 10 v)) w) := by
  obtain ⟨i0, hi, hz0, hz1, hz2⟩ := info_parts intInfo
  have la : a < w.heap.size := World.block_lt_of_cell? w _ hc
  have HC := Lib.hid hc
  go_enter Tryd.func45, Tryd.ntmps45
  go_wp2_with (first
    | (go_at_call 49; refine (Mul_any _).mono ?_; rintro e wm ⟨rfl, rfl⟩)
    | (at_make; refine wpList_make_full _ rfl _ _ _ rfl w.heap.size 3 i0 _ 1 Tryd.underlying31 hi hz0 hz1 _ _ _ _ 10 rfl rfl rfl rfl (by rw [hz2]; omega) (by unfold maxLen; omega) (Nat.le_refl _) ?_; intro w1 hown hg; have HH := Lib.hid (made_rep v hown); have he1 : Ext w w1 := (Ext.refl w).grown hg (fun k hk => by cases hk); have hc1 := he1.cell1 HC.out; clear hown hg)
    | (refine wpList_copy_splice (o := ⟨some 33, _, _, _, _, _⟩) ?g0 (.tmp 31) (.tmp 32) 31 31 ?g1 3 ?g2 intSize (some ⟨w.heap.size, 0, none⟩) (some ⟨a, 0, none⟩) 10 10 1 1 ?g3 ?g4 w.heap.size 0 (rep10 v 0) 3 ?g5 [.int .i64 v] ?g6 ?g7 ?g8 ?g9 w.heap.size w ?g10 ?g11 ?g12; (case g0 => rfl); (case g1 => rfl); (case g2 => exact Tryd.underlying31); (case g3 => rfl); (case g4 => rfl); (case g5 => exact HH.out); (case g6 => rfl); (case g7 => exact fun _ => ⟨rfl, _, rfl, one_at hc1⟩); (case g8 => rw [rep10_len]; simp); (case g9 => simp [Value.oneCell']); (case g10 => exact he1); (case g11 => exact Nat.le_refl _); intro w2 HG2 hB2))
  clear hi hz0 hz1 hz2 HH hc1 he1 hc
  have H1 := Lib.hid (show w2.heap[w.heap.size]? = some (.cells (rep10 v 1).toArray 3 (0, 0)) from HG2.out)
  clear HG2
  go_loopw [8] (fun i wr => ∃ k : Nat, 1 ≤ k ∧ k ≤ 10 ∧ i = .int .i64 k ∧ wr.heap[w.heap.size]? = some (.cells (rep10 v k).toArray 3 (0, 0)) ∧ Below w.heap.size w wr) (fun i _ => 10 - (intOf i).toNat)
  case atStart => exact ⟨1, by omega, by omega, rfl, H1.out, hB2⟩
  case round =>
    obtain ⟨k, hk1, hk, rfl, hh, hB⟩ := hrel
    have HK := Lib.hid hh
    clear hh
    by_cases hlt : k < 10
    · have hBd : Below w.heap.size w wr.drew := hB.drew
      have HKd := Lib.hid (show wr.drew.heap[w.heap.size]? = some (.cells (rep10 v k).toArray 3 (0, 0)) from HK.out)
      clear HK hB
      obtain ⟨m, hm, hm1, hm2, hm3⟩ : ∃ m, m = Nat.min k (10 - k) ∧ m ≤ k ∧ k + m ≤ 10 ∧ 1 ≤ m := min_facts (by omega) hlt
      have HM := Lib.hid hm
      clear hm
      have hp : ∀ j u, (List.replicate m (Value.int .i64 v))[j]? = some u → wr.drew.cell? ((⟨w.heap.size, 0, none⟩ : Addr).add j) = some u := rep_at HKd.out hm1 rfl
      have q1 : (k : Int) ≤ 10 := by omega
      have q2 : ¬ 10 = k := by omega
      have q3 : IntKind.i64.wrap ((k : Int) + (m : Int)) = (k : Int) + m := IntWalk.i64_in _ (by omega)
      go_wp2
      go_region_law (refine step_copy_splice rfl (.tmp 41) (.tmp 44) 31 31 rfl 3 Tryd.underlying31 intSize (some ⟨w.heap.size, k, none⟩) (some ⟨w.heap.size, 0, none⟩) (10 - k) (10 - k) k 10 (by simp [Act.eval, Act.put, q2]) (by simp [Act.eval, Act.put]) w.heap.size k (rep10 v k) 3 HKd.out (List.replicate m (Value.int .i64 v)) (by rw [List.length_replicate]; exact HM.out) (fun _ => ⟨rfl, _, rfl, hp⟩) (by rw [rep10_len]; simp; omega) (by intro v hv; rw [List.eq_of_mem_replicate hv]; rfl) w.heap.size w hBd (Nat.le_refl _) ?_; intro w4 hg4 hb4)
      all_goals
        have HG := Lib.hid ((hg4.out).trans (by rw [splice_rep v hm2]))
        clear hg4 hp
        simp only [Act.put, List.setIfInBounds_toArray, List.set_cons_succ, List.set_cons_zero, List.getElem_toArray, List.getElem_cons_succ, List.getElem_cons_zero, q3]
        go_roundw
        case rel => first | exact ⟨k + m, by omega, by omega, by go_num, HG.out, hb4⟩ | (refine ⟨_, _, _, _, _, _, _, _, _, _, _, _, _, _, ⟨k + m, by omega, by omega, ?_, HG.out, hb4⟩, rfl⟩; go_num)
        case measure => simp [intOf]; omega
    · obtain rfl : k = 10 := by omega
      go_wp2
      go_ret
      exact ⟨rfl, own_rep HK.out, Ext.of hB⟩
end Go.Proofs.YtmgpdenofkloeaaDoor
