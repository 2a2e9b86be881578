/- The least minutes: the reference's row. -/
import Derived.Test.YtmgpdenofkloeaaDoorTimesJ
namespace Go.Proofs.YtmgpdenofkloeaaDoor
open Go.RowKit
set_option linter.unusedVariables false
set_option linter.unusedSimpArgs false
attribute [local go_sem] ExtOf.cell

def fillF (k : Nat) : Nat → Int := fun i => if i < k then 10000 else 0
theorem fillF_succ (k : Nat) : upd (fillF k) k 10000 = fillF (k + 1) := by
  funext i
  unfold upd fillF
  by_cases h : i = k
  · subst h; simp
  · rw [if_neg h]
    by_cases h2 : i < k
    · rw [if_pos h2, if_pos (by omega)]
    · rw [if_neg h2, if_neg (by omega)]
theorem fillF_end {k : Nat} (h : 10 ≤ k) : tlist (fillF k) = tlist (fun _ => 10000) := by
  unfold tlist
  apply List.map_congr_left
  intro i hi
  have := List.mem_range.1 hi
  unfold fillF
  rw [if_pos (by omega)]
theorem tlist_upd_congr {T U : Nat → Int} (h : tlist T = tlist U) (k : Nat) (v : Int) : tlist (upd T k v) = tlist (upd U k v) := by
  rw [← tlist_set, ← tlist_set, h]
theorem made10_row : (madeCells (Value.cells (.int .i64 0)) (10 * 1)).toList = ints (tlist (fillF 0)) := by kernel_rfl

set_option maxRecDepth 100000 in
set_option maxHeartbeats 1000000 in
theorem l9Times_any (A : Option Addr) (n c : Nat) (xs : List Mail) (f m : Int) (w : World) (h : MailL w A n xs) (hok : MailsOk xs = true) (hf : inB f 0 9 = true) (hm : inB m 0 9999 = true) :
    Calls Tryd.prog 28 #[.slice A n c, .int .i64 f, .int .i64 m] w (RowIs 3 1 10 (ints (tlist (times xs f m))) w) := by
  obtain ⟨i0, hi, hz0, hz1, hz2⟩ := info_parts intInfo
  obtain ⟨hf1, hf2⟩ := inB_iff.1 hf
  obtain ⟨hm1, hm2⟩ := inB_iff.1 hm
  obtain ⟨f, rfl⟩ : ∃ g : Nat, f = g := ⟨f.toNat, by omega⟩
  have hsm := h.small
  have HG := Lib.hid (MailsOk_good hok)
  have HT := Lib.hid (timesTo_bd (xs := xs) (f := (f : Int)) (m := m) HG.out hm1 hm2)
  clear hok hf hm
  have hf3 : f < 10 := by omega
  go_enter Tryd.func28, Tryd.ntmps28
  go_wp2_with (at_make; refine wpList_make_full _ rfl _ _ _ rfl w.heap.size 3 i0 _ 1 Tryd.underlying31 hi hz0 hz1 _ _ _ _ 10 rfl rfl rfl rfl (by rw [hz2]; omega) (by unfold maxLen; omega) (Nat.le_refl _) ?_; intro w1 hown hg; rw [made10_row] at hown; have he0 : Ext w w1 := (Ext.refl w).grown hg (fun k hk => by cases hk); have HO0 := Lib.hid hown; clear hown hg)
  clear hi hz0 hz1 hz2
  go_loopw [8] (fun i wr => ∃ k : Nat, k ≤ 10 ∧ i = .int .i64 k ∧ wr.ownsRow w.heap.size 3 1 (.slice (some ⟨w.heap.size, 0, none⟩) 10 10) 10 (ints (tlist (fillF k))) ∧ Ext w wr) (fun i _ => 10 - (intOf i).toNat)
  case atStart => exact ⟨0, Nat.zero_le _, rfl, HO0.out, he0⟩
  case round =>
    obtain ⟨k, hk, rfl, ho, he⟩ := hrel
    clear HO0 he0
    by_cases hlt : k < 10
    · have gk := row_cell ho hlt
      have fk := ho.frozenAt k
      have hlb : w.heap.size < wr.heap.size := (ho.lt _ rfl).2
      have HO := Lib.hid ho
      clear ho
      generalize hv : Value.int .i64 (fillF k k) = v at gk
      clear hv
      go_wp2
      go_roundw
      case rel =>
        have ho2 := (HO.out.stored k (.int .i64 10000)).1
        rw [row_set, fillF_succ] at ho2
        exact ⟨k + 1, by omega, by go_num, ho2, he.set (Nat.le_refl _) _⟩
      case measure => simp [intOf]; omega
    · rw [fillF_end (show 10 ≤ k by omega)] at ho
      have gk := row_cell ho hf3
      have fk := ho.frozenAt f
      have hlb : w.heap.size < wr.heap.size := (ho.lt _ rfl).2
      have HO := Lib.hid ho
      clear ho
      go_wp2
      have ho1 := (HO.out.stored f (.int .i64 m)).1
      rw [row_set, show upd (fun _ => 10000) f m = timesTo xs f m 0 by rw [timesTo_zero]; rfl] at ho1
      have hE1 : Ext w (wr.setCell ⟨w.heap.size, f, none⟩ (.int .i64 m)) := he.set (Nat.le_refl _) _
      have HO1 := Lib.hid ho1
      clear ho1 gk fk
      go_loopw [9] (fun i wr => ∃ k : Nat, k ≤ n ∧ i = .int .i64 k ∧ wr.ownsRow w.heap.size 3 1 (.slice (some ⟨w.heap.size, 0, none⟩) 10 10) 10 (ints (tlist (timesTo xs f m k))) ∧ Ext w wr) (fun i _ => n - (intOf i).toNat)
      case atStart => exact ⟨0, Nat.zero_le _, rfl, HO1.out, hE1⟩
      case round =>
        obtain ⟨k, hk, rfl, ho, he⟩ := hrel
        clear HO1 hE1 HO
        by_cases hlt : k < n
        · obtain ⟨b, off, x, rfl, hb, hx, q0, q1, q2, q3⟩ := (h.ext he).at_ hlt
          obtain ⟨⟨a1, a2⟩, ⟨a3, a4⟩, a5, ⟨a6, a7⟩, a8, a9⟩ := good_all (HG.out x (List.mem_of_getElem? hx.out))
          have HS := Lib.hid (timesTo_succ (f := (f : Int)) (m := m) hx.out)
          obtain ⟨l, p, q, r⟩ := x
          simp only at *
          obtain ⟨p, rfl⟩ : ∃ g : Nat, p = g := ⟨p.toNat, by omega⟩
          obtain ⟨q, rfl⟩ : ∃ g : Nat, q = g := ⟨q.toNat, by omega⟩
          have hp10 : p < 10 := by omega
          have hq10 : q < 10 := by omega
          have r1 := row_cell ho hp10
          have r2 := row_cell ho hq10
          have hlb : w.heap.size < wr.heap.size := (ho.lt _ rfl).2
          have HO := Lib.hid ho
          clear ho a5
          generalize hT : timesTo xs (f : Int) m k = T at *
          have HT0 := Lib.hid hT
          clear hT
          by_cases c1 : T p ≤ l
          · have hs := Lib.hid (HS.out.trans (step_min (T := T) (x := ⟨l, p, q, r⟩) c1))
            have c2 : decide (T p ≤ l) = true := by simpa using c1
            go_wp2
            (refine wp_region_ext_lit (by kernel_rfl) (by kernel_rfl) ?_; (repeat (go_big_quiet_step ((fail)))); refine wpQuiet_nil ?_; rintro wq ⟨⟨_, heq⟩, rfl⟩; (try dsimp only))
            have OQ := Lib.hid ((((Ext.refl _).alloc _).trans heq).own HO.out)
            have EQ := Lib.hid ((he.alloc _).trans heq)
            have hc := ((Ext.refl _).trans heq).cells
            have hz : wr.heap.size + 1 ≤ wq.heap.size := by have := heq.size; simpa using this
            have hz2 : wr.heap.size < wq.heap.size := by omega
            have hz3 : w.heap.size < wq.heap.size := by omega
            have hz4 : w.heap.size < wr.heap.size + 1 := by omega
            clear heq
            go_wp2
            (refine wp_region_ext_tail 12 (by kernel_rfl) (by kernel_rfl) ?_; simp only [List.take_succ_cons, List.take_zero, List.drop_succ_cons, List.drop_zero]; (repeat (go_big_quiet_step (((go_at_call 44; exact ext_call_same (l1Least_any _ _ _)))))); refine wpQuiet_nil ?_; rintro wq ⟨⟨_, heq⟩, rfl⟩; (try dsimp only))
            have OR := Lib.hid (heq.own OQ.out)
            have hc2 := heq.cells
            obtain ⟨uq, gq⟩ := own_cell OR.out (show q < 10 * 1 by omega)
            have fq := OR.out.frozenAt q
            go_wp2
            go_roundw
            case rel =>
              have ho2 := (OR.out.stored q (.int .i64 (min (T q) r))).1
              rw [row_set] at ho2
              exact ⟨k + 1, by omega, by go_num, by rw [hs.out]; exact ho2, (EQ.out.trans heq).set (Nat.le_refl _) _⟩
            case measure => simp [intOf]; omega
          · have hs := Lib.hid (HS.out.trans (step_skip (T := T) (x := ⟨l, p, q, r⟩) c1))
            have c2 : decide (T p ≤ l) = false := by simpa using c1
            go_wp2
            (refine wp_region_ext_lit (by kernel_rfl) (by kernel_rfl) ?_; (repeat (go_big_quiet_step ((fail)))); refine wpQuiet_nil ?_; rintro wq ⟨⟨_, heq⟩, rfl⟩; (try dsimp only))
            go_wp2
            go_roundw
            case rel => exact ⟨k + 1, by omega, by go_num, by rw [hs.out]; exact (((Ext.refl _).alloc _).trans heq).own HO.out, (he.alloc _).trans heq⟩
            case measure => simp [intOf]; omega
        · obtain rfl : n = k := by omega
          have hend := Lib.hid (timesTo_end (f := (f : Int)) (m := m) (Nat.le_of_eq h.len))
          have HO := Lib.hid ho
          clear ho
          go_wp2
          go_ret
          exact ⟨w.heap.size, Nat.le_refl _, rfl, by rw [← hend.out]; exact HO.out, he⟩
end Go.Proofs.YtmgpdenofkloeaaDoor
