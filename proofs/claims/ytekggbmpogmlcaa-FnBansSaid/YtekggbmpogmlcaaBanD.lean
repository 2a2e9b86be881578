/- slices.Clone and slices.Delete at bans. -/
import Derived.Test.YtekggbmpogmlcaaDead
import Derived.Deep.RegionLaw
import Derived.Lib.SliceRun
namespace Go.Proofs.Ytekggbmpogmlcaa
open Go.RowKit
set_option linter.unusedVariables false
set_option linter.unusedSimpArgs false
attribute [local go_sem] ExtOf.cell

theorem bans_len (bs : List Ban) : (bs.flatMap Ban.cs).length = bs.length * 4 := flat_length Ban.cs 4 Ban.len bs
theorem bans_one (bs : List Ban) : ∀ u ∈ bs.flatMap Ban.cs, u.oneCell' = true := by
  intro u hu
  obtain ⟨x, _, hx⟩ := List.mem_flatMap.1 hu
  simp only [Ban.cs, List.mem_cons, List.not_mem_nil, or_false] at hx
  rcases hx with rfl | rfl | rfl | rfl <;> rfl
set_option maxRecDepth 100000 in
set_option maxHeartbeats 1000000 in
theorem CloneB_any (A : Option Addr) (n c : Nat) (bs : List Ban) (w : World) (hn : n ≤ 1048576) (hr : Rd w A n 4 (bs.flatMap Ban.cs)) :
    Calls Try.prog 24 #[.slice A n c] w fun e w' => ∃ A' c', e = .returned (.slice A' n c') ∧ w'.ownsRow w.heap.size 42 4 (.slice A' n c') n (bs.flatMap Ban.cs) ∧ Ext w w' := by
  obtain ⟨i0, hi, hz0, hz1, hz2⟩ := info_parts infoBan
  have hq : ∀ (w : World) (a : Option Addr) (n c n' c' : Nat), (binOp .eql 25 (.slice a n c) (.slice none n' c')).run Try.prog w = .ok (.bool a.isNone) w := fun w a n c n' c' => Lib.run_eql_slice_nil w _ _ a n c n' c' Try.underlying25
  have HONE := Lib.hid (bans_one bs)
  generalize bs.flatMap Ban.cs = L at *
  cases A with
  | none =>
    obtain rfl : n = 0 := by
      rcases Nat.eq_zero_or_pos n with h | h
      · exact h
      · obtain ⟨b, off, e, _⟩ := hr.2 h; cases e
    obtain rfl : L = [] := by
      have := hr.1; exact List.eq_nil_of_length_eq_zero (by omega)
    go_enter Try.func24, Try.ntmps24
    go_wp2
    go_ret
    exact ⟨none, 0, rfl, own_nil _ _ _ _, Ext.refl _⟩
  | some a =>
    have HC : ∀ j u, L[j]? = some u → w.cell? (a.add j) = some u := fun j u hj => by
      have hl := (List.getElem?_eq_some_iff.1 hj).1
      have h1 := hr.1
      obtain ⟨b, off, e, _, hc⟩ := hr.2 (by omega)
      injection e with e; subst e
      rw [Addr.add_mid]; exact hc j u hj
    have HC := Lib.hid HC
    have HL := Lib.hid hr.1
    clear hr
    go_enter Try.func24, Try.ntmps24
    go_wp2_with (at_builtin; refine wpList_append_own _ rfl _ _ 25 rfl w.heap.size 42 i0 (.agg #[.int .i64 0, .int .i64 0, .int .i64 0, .int .i64 0]) 4 32 Try.underlying25 hi hz0 hz1 hz2 rfl (by decide) _ _ _ rfl (World.ownsRow_made w #[] 0 (Nat.le_refl _) (Nat.zero_le _) rfl) a n c L rfl ?qc1 ?qc2 ?qc3 ?qc4 ?qc5 ?qc6 ?_)
    case qc1 => exact HL.out
    case qc2 => exact fun j u hj => ((Ext.refl w).alloc _).cellp (HC.out j u hj)
    case qc3 => exact HONE.out
    case qc4 => unfold maxLen; omega
    case qc5 => omega
    case qc6 => simp
    intro v' w1 hown hgrow hnil
    go_wp2
    go_ret
    obtain ⟨A', c', rfl⟩ := own_slice hown
    exact ⟨A', c', by simp, hown, ((Ext.refl w).alloc _).grown hgrow (by intro k hk; simp [Value.ownBlock] at hk; omega)⟩
theorem clear_ban (w : World) (b o c : Nat) (hc : ∀ j, j < 4 → (w.cell? ⟨b, o + j, none⟩).isSome = true) (hf : ∀ j, j < 4 → w.frozen? ⟨b, o + j, none⟩ = false) :
    ∀ ty, (Builtin.clear_ #[25] ty #[.slice (some ⟨b, o, none⟩) 1 c]).run Try.prog w = .ok (.tuple #[]) (w.setCells b o [.int .i64 0, .int .i64 0, .int .i64 0, .int .i64 0]) := by
  intro ty
  have hzc : (Builtin.zeroCells (Value.cells (.agg #[.int .i64 0, .int .i64 0, .int .i64 0, .int .i64 0])) 1).toList = [.int .i64 0, .int .i64 0, .int .i64 0, .int .i64 0] := by kernel_rfl
  have hst := run_storeCells_cells (P := Try.prog) b o [.int .i64 0, .int .i64 0, .int .i64 0, .int .i64 0] 0 w (by simpa using hc) (by simpa using hf) (by intro v hv'; simp at hv'; subst hv'; rfl)
  simp only [Nat.add_zero] at hst
  simp [Builtin.clear_, run_underlying Try.underlying25, Try.zeroValue42, hzc, hst]
theorem delete_cells (bs : List Ban) (i k : Nat) (zs : List Value) (hb : bs.length = k + 1) (hi : i ≤ k) : (setL (setL (bs.flatMap Ban.cs) (i * 4) ((bs.drop (i + 1)).flatMap Ban.cs)) (k * 4) zs).take (k * 4) = (bs.eraseIdx i).flatMap Ban.cs := by
  rw [setL_take]
  have e1 : bs.flatMap Ban.cs = (bs.take i).flatMap Ban.cs ++ (bs.drop i).flatMap Ban.cs := by rw [← List.flatMap_append, List.take_append_drop]
  have l1 : ((bs.take i).flatMap Ban.cs).length = i * 4 := by rw [bans_len, List.length_take, Nat.min_eq_left (by omega)]
  have l2 : ((bs.drop (i + 1)).flatMap Ban.cs).length = (k - i) * 4 := by rw [bans_len, List.length_drop, hb]; omega
  have l3 : ((bs.drop i).flatMap Ban.cs).length = (k + 1 - i) * 4 := by rw [bans_len, List.length_drop, hb]
  generalize hD : (bs.drop i).flatMap Ban.cs = D at *
  have e2 : D = D.take ((k - i) * 4) ++ D.drop ((k - i) * 4) := (List.take_append_drop _ _).symm
  have h4 := setL_mid ((bs.drop (i + 1)).flatMap Ban.cs) ((bs.take i).flatMap Ban.cs) (D.take ((k - i) * 4)) (D.drop ((k - i) * 4)) (by rw [List.length_take, l2, l3]; omega)
  rw [l1, List.append_assoc, ← e2] at h4
  rw [e1, h4, List.eraseIdx_eq_take_drop_succ, List.flatMap_append]
  exact List.take_left' (by rw [List.length_append, l1, l2]; omega)
set_option maxRecDepth 100000 in
set_option maxHeartbeats 2000000 in
theorem DeleteB_any (g k c i base : Nat) (bs : List Ban) (w : World) (hi : i ≤ k) (hm : k ≤ 1048576) (hb : bs.length = k + 1) (ho : w.ownsRow base 42 4 (.slice (some ⟨g, 0, none⟩) (k + 1) c) (k + 1) (bs.flatMap Ban.cs)) :
    Calls Try.prog 23 #[.slice (some ⟨g, 0, none⟩) (k + 1) c, .int .i64 i, .int .i64 ((i : Int) + 1)] w fun e w' => e = .returned (.slice (some ⟨g, 0, none⟩) k c) ∧ w'.ownsRow base 42 4 (.slice (some ⟨g, 0, none⟩) k c) k ((bs.eraseIdx i).flatMap Ban.cs) ∧ w.grownBy w' (some g) := by
  obtain ⟨i0, hi0, hz0, hz1, hz2⟩ := info_parts infoBan
  have hoc : k + 1 ≤ c ∧ c ≤ maxLen := by
    rcases ho.2 with ⟨h1, _⟩ | ⟨g', cap, cur, h1, _, _, h4, h5, _⟩
    · cases h1
    · injection h1 with _ _ e3; omega
  unfold maxLen at hoc
  obtain ⟨news, hnews⟩ : ∃ news, news = (bs.drop (i + 1)).flatMap Ban.cs := ⟨_, rfl⟩
  have hnl : news.length = (k - i) * 4 := by rw [hnews, bans_len, List.length_drop, hb]; omega
  have hdr : w.grownBy w.drew (some g) := ⟨rfl, rfl, rfl, Nat.le_refl _, fun _ _ _ => rfl⟩
  have hD := own_setCells news (i * 4) w.drew _ ((Ext.refl w).drew.own ho)
  have hget : ∀ t u, news[t]? = some u → w.drew.cell? ⟨g, (i + 1) * 4 + t, none⟩ = some u := fun t u hu => by
    have h1 : (bs.flatMap Ban.cs)[(i + 1) * 4 + t]? = some u := by
      have e1 : bs.flatMap Ban.cs = (bs.take (i + 1)).flatMap Ban.cs ++ news := by rw [hnews, ← List.flatMap_append, List.take_append_drop]
      rw [e1, List.getElem?_append_right (by rw [bans_len, List.length_take]; omega), bans_len, List.length_take, Nat.min_eq_left (by omega), Nat.add_sub_cancel_left]
      exact hu
    exact (Ext.refl w).drew.cell1 (own_at ho h1)
  obtain ⟨A, hA, hsrc⟩ : ∃ A : Addr, (if c = i + 1 then some (⟨g, 0, none⟩ : Addr) else some ⟨g, (i + 1) * 4, none⟩) = some A ∧ Hid (∀ t u, news[t]? = some u → w.drew.cell? (A.add t) = some u) := by
    by_cases h : c = i + 1
    · refine ⟨⟨g, 0, none⟩, by simp [h], fun t u hu => ?_⟩
      have h0 : news.length = 0 := by rw [hnl]; omega
      rw [List.length_eq_zero_iff.1 h0] at hu
      simp at hu
    · exact ⟨⟨g, (i + 1) * 4, none⟩, by simp [h], fun t u hu => by rw [Addr.add_mid]; exact hget t u hu⟩
  have s2 : Hid (∀ u ∈ news, u.oneCell' = true) := by rw [hnews]; exact bans_one _
  have s3 : Hid (∀ t, t < news.length → (w.drew.cell? ⟨g, 0 + i * 4 + t, none⟩).isSome = true ∧ w.drew.frozen? ⟨g, 0 + i * 4 + t, none⟩ = false) := by
    intro t ht
    rw [hnl] at ht
    obtain ⟨u, hu⟩ := own_cell (j := i * 4 + t) ho (by omega)
    refine ⟨?_, ?_⟩
    · rw [Nat.zero_add, (Ext.refl w).drew.cell1 hu]; rfl
    · rw [Nat.zero_add]; exact ho.frozenAt _
  obtain ⟨W1, hW1⟩ : ∃ W1, W1 = w.drew.setCells g (0 + i * 4) news := ⟨_, rfl⟩
  have hW0 := hW1
  rw [Nat.zero_add] at hW0
  rw [← hW0] at hD
  have hcl := clear_ban W1 g (k * 4) (c - k) (fun t ht => by obtain ⟨u, hu⟩ := own_cell (j := k * 4 + t) hD.1 (by omega); rw [hu]; rfl) (fun t ht => hD.1.frozenAt _)
  have hW : Hid (W1 = w.drew.setCells g (0 + i * 4) news) := hW1
  have HD := Lib.hid hD
  have HB := Lib.hid hb
  have HN := Lib.hid hnews
  have HDR := Lib.hid hdr
  have hnl2 := Lib.hid (show news.length = (k + 1 - (i + 1)) * 4 by rw [hnl]; omega)
  clear hW0 hW1 hget hD hb hnews ho hnl hdr
  go_enter Try.func23, Try.ntmps23
  go_wp2_with fail
  have hic : i ≤ c := by omega
  have hjc : i + 1 ≤ c := by omega
  have hz1' : (0 : Int) ≤ (i : Int) + 1 := by omega
  have hz2' : (i : Int) + 1 ≤ (k : Int) + 1 := by omega
  have hz3' : i + 1 ≤ k + 1 := by omega
  have hkc : k ≤ c := by omega
  go_region_law (refine step_append_room rfl (.tmp 22) (.tmp 25) 25 rfl 42 i0 4 Try.underlying25 hi0 hz1 g 0 i c (by simp [Act.eval, Act.put]) A (k - i) (c - (i + 1)) news (by simp [Act.eval, Act.put]) (by rw [hnl2.out]; omega) hsrc.out s2.out (by omega) s3.out ?_; rw [← hW.out])
  go_wp2
  go_ret
  have h2 := own_setCells [.int .i64 0, .int .i64 0, .int .i64 0, .int .i64 0] (k * 4) W1 _ HD.out.1
  refine ⟨rfl, ?_, (HDR.out.trans HD.out.2).trans h2.2⟩
  have h3 := own_prefix h2.1 (show k ≤ k + 1 by omega)
  rw [HN.out, delete_cells bs i k _ HB.out hi] at h3
  exact h3
theorem DeleteB_any' (g m k c i base : Nat) (bs : List Ban) (w : World) (hmk : m = k + 1) (hi : i ≤ k) (hm : k ≤ 1048576) (hb : bs.length = m) (ho : w.ownsRow base 42 4 (.slice (some ⟨g, 0, none⟩) m c) m (bs.flatMap Ban.cs)) :
    Calls Try.prog 23 #[.slice (some ⟨g, 0, none⟩) m c, .int .i64 i, .int .i64 ((i : Int) + 1)] w fun e w' => e = .returned (.slice (some ⟨g, 0, none⟩) k c) ∧ w'.ownsRow base 42 4 (.slice (some ⟨g, 0, none⟩) k c) k ((bs.eraseIdx i).flatMap Ban.cs) ∧ w.grownBy w' (some g) := by
  subst hmk
  exact DeleteB_any g k c i base bs w hi hm hb ho
end Go.Proofs.Ytekggbmpogmlcaa
