/- The law on combs: comparisons; plain laws. -/
import Derived.Test.YtoafaejhabjlnaaDoorSameS
import Derived.Test.YtoafaejhabjlnaaDoorVsR
namespace Go.Proofs.YtoafaejhabjlnaaDoor
open Go.RowKit
set_option linter.unusedVariables false
set_option linter.unusedSimpArgs false
attribute [local go_sem] ExtOf.cell

set_option maxHeartbeats 400000 in
theorem rInts_same (A A' : Option Addr) (n c c' : Nat) (l : List Int) (w : World) (hm : n ≤ 1048576) (hr : Rd w A n 1 (ints l)) (hr' : Rd w A' n 1 (ints l)) :
    Calls Tryd.prog 8 #[.slice A n c, .slice A' n c'] w fun e w' => e = .returned (.bool true) ∧ Ext w w' := by
  go_enter Tryd.func8, Tryd.ntmps8
  go_wp2
  go_loopw [5] (fun i wr => ∃ k : Nat, k ≤ n ∧ i = .int .i64 k ∧ Ext w wr) (fun i _ => n - (intOf i).toNat)
  case atStart => exact ⟨0, Nat.zero_le _, rfl, Ext.refl _⟩
  case round =>
    obtain ⟨k, hk, rfl, he⟩ := hrel
    by_cases hlt : k < n
    · obtain ⟨b, off, x, rfl, hb, hx, g0⟩ := (hr.ext he).int hlt
      obtain ⟨b', off', y, rfl, hb', hy, q0⟩ := (hr'.ext he).int hlt
      obtain rfl : x = y := by have := hx.out.symm.trans hy.out; injection this
      clear hr hr'
      go_wp2
      (refine wp_region_ext_lit (by kernel_rfl) (by kernel_rfl) ?_; (repeat (go_big_quiet_step ((fail)))); refine wpQuiet_nil ?_; rintro wq ⟨⟨_, heq⟩, rfl⟩; (try dsimp only))
      go_wp2
      go_roundw
      case rel => exact ⟨k + 1, by omega, by go_num, he.trans heq⟩
      case measure => simp [intOf]; omega
    · obtain rfl : k = n := by omega
      go_wp2
      go_ret
      exact ⟨rfl, he⟩
def hasI (l : List Int) (x : Int) : Bool := l.any fun y => y == x
theorem hasI_mem {l : List Int} {x : Int} : hasI l x = true ↔ x ∈ l := by
  unfold hasI; rw [List.any_eq_true]
  exact ⟨fun ⟨y, hy, e⟩ => by have := eq_of_beq e; rw [← this]; exact hy, fun h => ⟨x, h, beq_self_eq_true x⟩⟩
set_option maxHeartbeats 400000 in
theorem rHas_any (A : Option Addr) (n c : Nat) (l : List Int) (x : Int) (w : World) (hn : l.length = n) (hm : n ≤ 1048576) (hr : Rd w A n 1 (ints l)) :
    Calls Tryd.prog 11 #[.slice A n c, .int .i64 x] w fun e w' => e = .returned (.bool (hasI l x)) ∧ Ext w w' := by
  unfold hasI
  have HN := Lib.hid hn
  clear hn
  go_enter Tryd.func11, Tryd.ntmps11
  go_wp2
  go_loopw [5] (fun i wr => ∃ k : Nat, k ≤ n ∧ i = .int .i64 k ∧ noneTo (fun y => y == x) l k ∧ Ext w wr) (fun i _ => n - (intOf i).toNat)
  case atStart => exact ⟨0, Nat.zero_le _, rfl, noneTo_zero _ _, Ext.refl _⟩
  case round =>
    obtain ⟨k, hk, rfl, hnone, he⟩ := hrel
    have HO := Lib.hid hnone
    clear hnone
    by_cases hlt : k < n
    · obtain ⟨b, off, y, rfl, hb, hy, g0⟩ := (hr.ext he).int hlt
      clear hr
      cases hp : (y == x)
      · have hne : (y == x) = false := hp
        have hd : decide (y = x) = false := by simpa using hp
        go_wp2
        go_roundw
        case rel => exact ⟨k + 1, by omega, by go_num, noneTo_succ HO.out hy.out hne, he⟩
        case measure => simp [intOf]; omega
      · have hyes : (l.any fun y => y == x) = true := any_hit hy.out hp
        have hd : decide (y = x) = true := by simpa using hp
        go_wp2
        go_ret
        exact ⟨ret_bool hyes.symm, he⟩
    · obtain rfl : k = n := by omega
      have hno : (l.any fun y => y == x) = false := any_of_none (Nat.le_of_eq HN.out) HO.out
      go_wp2
      go_ret
      exact ⟨ret_bool hno.symm, he⟩
set_option maxRecDepth 100000 in
set_option maxHeartbeats 1000000 in
theorem rTable_same (A A' : Option Addr) (n c c' base base' : Nat) (zs zs' : List Kd) (w : World) (hm : n ≤ 1048576) (hz : zs.length = n) (hz' : zs'.length = n) (he : zs.map Prod.snd = zs'.map Prod.snd) (hl : ∀ z ∈ zs, z.2.length ≤ 1048576)
    (h : Lists w base (.slice A n c) zs) (h' : Lists w base' (.slice A' n c') zs') :
    Calls Tryd.prog 14 #[.slice A n c, .slice A' n c'] w fun e w' => e = .returned (.bool true) ∧ Ext w w' := by
  have HZ := Lib.hid hz
  have HZ' := Lib.hid hz'
  have HE := Lib.hid he
  have HL := Lib.hid hl
  have H := Lib.hid h
  have H' := Lib.hid h'
  clear hz hz' he hl h h'
  go_enter Tryd.func14, Tryd.ntmps14
  go_wp2
  go_loopw [5] (fun i wr => ∃ k : Nat, k ≤ n ∧ i = .int .i64 k ∧ Ext w wr) (fun i _ => n - (intOf i).toNat)
  case atStart => exact ⟨0, Nat.zero_le _, rfl, Ext.refl _⟩
  case round =>
    obtain ⟨k, hk, rfl, he⟩ := hrel
    by_cases hlt : k < n
    · obtain ⟨g, B, e, l, rfl, hg, hx, g0, ho⟩ := (H.out.ext he).get hlt HZ.out
      obtain ⟨g', B', e', l', rfl, hg', hx', q0, ho'⟩ := (H'.out.ext he).get hlt HZ'.out
      obtain rfl : l' = l := by
        have h1 := snd_get HE.out hx.out
        have h2 := snd_get (rfl : zs'.map Prod.snd = _) hx'.out
        rw [h1] at h2
        injection h2 with h2
        exact h2.symm
      have hll : l'.length ≤ 1048576 := HL.out _ (List.mem_of_getElem? hx.out)
      have CR := Lib.hid (fun (wx : World) (hx : Ext wr wx) => rInts_same B B' l'.length e e' l' wx hll ((Rd.own ho).ext hx) ((Rd.own ho').ext hx))
      clear ho ho' hx hx' H H'
      go_wp2
      (refine wp_region_ext_lit (by kernel_rfl) (by kernel_rfl) ?_; (repeat (go_big_quiet_step (((go_at_call 8; exact ext_call (CR.out _ (ExtOf.ext _))))))); refine wpQuiet_nil ?_; rintro wq ⟨⟨_, heq⟩, rfl⟩; (try dsimp only))
      go_wp2
      go_roundw
      case rel => exact ⟨k + 1, by omega, by go_num, he.trans heq⟩
      case measure => simp [intOf]; omega
    · obtain rfl : k = n := by omega
      go_wp2
      go_ret
      exact ⟨rfl, he⟩
/- plain laws -/
theorem adj_asc : ∀ {xs : List Comb} {q : Option Comb}, adj CombP q xs = true → (∀ y, q = some y → ∀ z ∈ xs, y.Id < z.Id) ∧ xs.Pairwise (fun a b => a.Id < b.Id)
  | [], q, _ => ⟨fun y _ z hz => (by cases hz), List.Pairwise.nil⟩
  | x :: xs, q, h => by
    simp only [adj, Bool.and_eq_true] at h
    obtain ⟨i1, i2⟩ := adj_asc h.2
    have hx := i1 x rfl
    refine ⟨fun y hy z hz => ?_, List.pairwise_cons.2 ⟨hx, i2⟩⟩
    have hyx : y.Id < x.Id := by
      have := h.1
      rw [hy] at this
      simp only [CombP, Bool.and_eq_true, decide_eq_true_eq] at this
      exact this.2
    rcases List.mem_cons.1 hz with rfl | hz
    · exact hyx
    · exact Int.lt_trans hyx (hx z hz)
theorem Combs_asc {xs : List Comb} (h : CombsOk xs = true) : xs.Pairwise (fun a b => a.Id < b.Id) := by
  simp only [CombsOk, Bool.and_eq_true] at h
  exact (adj_asc h.1).2
theorem Combs_id {xs : List Comb} (h : CombsOk xs = true) {x y : Comb} (hx : x ∈ xs) (hy : y ∈ xs) (e : x.Id = y.Id) : x = y := by
  have hp := List.pairwise_iff_getElem.1 (Combs_asc h)
  obtain ⟨i, hi, ei⟩ := List.getElem_of_mem hx
  obtain ⟨j, hj, ej⟩ := List.getElem_of_mem hy
  rcases Nat.lt_trichotomy i j with h1 | h1 | h1
  · have := hp i j hi hj h1; rw [ei, ej] at this; omega
  · subst h1; rw [← ei, ← ej]
  · have := hp j i hj hi h1; rw [ei, ej] at this; omega
theorem has_ids {xs : List Comb} (h : CombsOk xs = true) {p : Comb → Bool} {x : Comb} (hx : x ∈ xs) : hasI (idsOf p xs) x.Id = p x := by
  cases hp : p x
  · cases hh : hasI (idsOf p xs) x.Id
    · rfl
    · rw [hasI_mem] at hh
      unfold idsOf at hh
      obtain ⟨y, hy, e⟩ := List.mem_map.1 hh
      obtain ⟨hy1, hy2⟩ := List.mem_filter.1 hy
      rw [Combs_id h hy1 hx e, hp] at hy2
      cases hy2
  · rw [hasI_mem]
    exact List.mem_map.2 ⟨x, List.mem_filter.2 ⟨hx, hp⟩, rfl⟩
/-- Turned combs are those that match the exchanged gauges alone. -/
theorem turn_law {xs : List Comb} {w h o : Int} (hq : askC xs w h o = true) {x : Comb} (hx : x ∈ xs) :
    hasI (turnR xs w h o) x.Id = (hasI (matchR xs h w o) x.Id && !(hasI (matchR xs w h o) x.Id)) := by
  have hok := (askC_all hq).1
  have hq' : askC xs h w o = true := by rw [askC_turn]; exact hq
  unfold turnR matchR
  rw [if_pos hq, if_pos hq', if_pos hq, has_ids hok hx, has_ids hok hx, has_ids hok hx, turnB, Bool.and_comm]
/-- Each comb is in one group. -/
theorem same_sum {xs : List Comb} (h : CombsOk xs = true) : sumN (sameR xs) = xs.length := by
  unfold sameR; rw [if_pos h]; exact sum_grps xs _ (Nat.le_refl _)
theorem same_len (xs : List Comb) : (sameR xs).length ≤ xs.length := by
  unfold sameR
  split
  · rw [grps_full, List.length_map]; exact firsts_len xs
  · exact Nat.zero_le _
theorem same_each {xs : List Comb} {g : List Int} (h : g ∈ sameR xs) : g.length ≤ xs.length := by
  unfold sameR at h
  split at h
  · rw [grps_full] at h
    obtain ⟨y, _, rfl⟩ := List.mem_map.1 h
    exact ids_len _ _
  · cases h
theorem match_len (xs : List Comb) (w h o : Int) : (matchR xs w h o).length ≤ xs.length := by
  unfold matchR
  split
  · exact ids_len _ _
  · exact Nat.zero_le _
theorem turn_len (xs : List Comb) (w h o : Int) : (turnR xs w h o).length ≤ xs.length := by
  unfold turnR
  split
  · exact ids_len _ _
  · exact Nat.zero_le _
def sumK (gs : List (List Int)) (k : Nat) : Nat := sumN (gs.take k)
theorem sumK_zero (gs : List (List Int)) : sumK gs 0 = 0 := rfl
theorem sumK_succ {gs : List (List Int)} {k : Nat} {g : List Int} (h : gs[k]? = some g) : sumK gs (k + 1) = sumK gs k + g.length := by
  obtain ⟨hk, rfl⟩ := List.getElem?_eq_some_iff.1 h
  unfold sumK; rw [List.take_succ_eq_append_getElem hk, sum_snoc]
theorem sumK_end {gs : List (List Int)} {n : Nat} (h : gs.length = n) : sumK gs n = sumN gs := by
  unfold sumK; rw [List.take_of_length_le (Nat.le_of_eq h)]
theorem sumN_bd {gs : List (List Int)} {B : Nat} (h : ∀ g ∈ gs, g.length ≤ B) : sumN gs ≤ gs.length * B := by
  induction gs with
  | nil => exact Nat.zero_le _
  | cons a gs ih =>
    have h1 := ih (fun g hg => h g (List.mem_cons_of_mem _ hg))
    have h2 := h a (List.mem_cons_self ..)
    have e : sumN (a :: gs) = a.length + sumN gs := by simp [sumN]
    rw [e, List.length_cons, Nat.add_mul, Nat.one_mul]
    omega
theorem sumK_bd {gs : List (List Int)} {B : Nat} (h : ∀ g ∈ gs, g.length ≤ B) (k : Nat) : sumK gs k ≤ gs.length * B := by
  have h1 := sumN_bd (gs := gs.take k) (fun g hg => h g (List.mem_of_mem_take hg))
  have h2 : (gs.take k).length ≤ gs.length := by rw [List.length_take]; omega
  exact Nat.le_trans h1 (Nat.mul_le_mul_right _ h2)
end Go.Proofs.YtoafaejhabjlnaaDoor
