/- StrangeRates (made by wip/rates3.py). -/
import Derived.Test.YtkganlojknhajaaRateI
import Derived.Test.YtkganlojknhajaaIdx
import Derived.BigRegion
namespace Go.Proofs.Ytkganlojknhajaa
open Go.RowKit
set_option linter.unusedVariables false
set_option linter.unusedSimpArgs false
attribute [local go_sem] ExtOf.cell

def strangeP (r s : Rate) : Bool := (s.Zone == r.Zone) && (decide (s.Grams < r.Grams) && (decide (r.Cents < s.Cents) && decide (max s.From r.From ≤ min s.Until r.Until)))
def strangeAt (xs : List Rate) (i : Nat) : Bool := match xs[i]? with
  | some r => xs.any (strangeP r)
  | none => false
def strangeR (xs : List Rate) : List Int := if RatesOk xs then idxs (strangeAt xs) xs.length else []
theorem strange_len {xs : List Rate} {n : Nat} (hn : xs.length = n) : (strangeR xs).length ≤ n := by
  unfold strangeR
  split
  · rw [← hn]; exact idxs_len _ _
  · simp
theorem strangeAt_at {xs : List Rate} {i : Nat} {r : Rate} (h : xs[i]? = some r) : strangeAt xs i = xs.any (strangeP r) := by simp [strangeAt, h]
theorem strange_before {xs : List Rate} {i : Nat} {r : Rate} (hv : RatesOk xs = true) (h : xs[i]? = some r) : xs.any (strangeP r) = (xs.take i).any (strangeP r) := by
  have hs := rates_sorted hv
  obtain ⟨hi, e⟩ := List.getElem?_eq_some_iff.1 h
  rw [Bool.eq_iff_iff, List.any_eq_true, List.any_eq_true]
  constructor
  · rintro ⟨s, hm, hp⟩
    obtain ⟨j, hj, ej⟩ := List.getElem_of_mem hm
    refine ⟨s, ?_, hp⟩
    rcases Nat.lt_trichotomy j i with hl | hl | hl
    · rw [List.mem_take_iff_getElem]; exact ⟨j, by omega, ej⟩
    · subst hl; rw [e] at ej; subst ej; simp [strangeP] at hp
    · have hq := (List.pairwise_iff_getElem.1 hs i j hi hj hl).1
      rw [e, ej] at hq
      simp only [rateLess, strangeP, Bool.or_eq_true, Bool.and_eq_true, decide_eq_true_eq, beq_iff_eq] at hq hp
      omega
  · rintro ⟨s, hm, hp⟩
    exact ⟨s, List.mem_of_mem_take hm, hp⟩
theorem strange_spec {x y : Rate} (hx : RateGood x = true) (hy : RateGood y = true) : strangeP x y = ((y.Zone == x.Zone) && (decide (y.Grams < x.Grams) && (decide (y.From ≤ x.Until) && (decide (x.From ≤ y.Until) && decide (x.Cents < y.Cents))))) := by
  obtain ⟨_, _, ⟨a5, a6⟩, _, _⟩ := rtOk_all (show rtOk x.Zone x.Grams x.From x.Until x.Cents = true from hx)
  obtain ⟨_, _, ⟨b5, b6⟩, _, _⟩ := rtOk_all (show rtOk y.Zone y.Grams y.From y.Until y.Cents = true from hy)
  rw [Bool.eq_iff_iff]
  simp only [strangeP, Bool.and_eq_true, decide_eq_true_eq, beq_iff_eq]
  omega
theorem any_take_succ {α : Type} {p : α → Bool} {xs : List α} {k : Nat} {x : α} (hx : xs[k]? = some x) : (xs.take (k + 1)).any p = ((xs.take k).any p || p x) := by
  obtain ⟨hk, e⟩ := List.getElem?_eq_some_iff.1 hx
  rw [List.take_succ_eq_append_getElem hk, List.any_append, e]; simp


set_option maxHeartbeats 1000000 in
theorem Strange1_any (s r : Rate) (b : Nat) (w : World) (c0 : w.cell? ⟨b, 0, none⟩ = some (.int .i64 r.Zone)) (c1 : w.cell? ⟨b, 1, none⟩ = some (.int .i64 r.Grams)) (c2 : w.cell? ⟨b, 2, none⟩ = some (.int .i64 r.From)) (c3 : w.cell? ⟨b, 3, none⟩ = some (.int .i64 r.Until)) (c4 : w.cell? ⟨b, 4, none⟩ = some (.int .i64 r.Cents)) :
    Calls Try.prog 67 #[.agg #[.int .i64 s.Zone, .int .i64 s.Grams, .int .i64 s.From, .int .i64 s.Until, .int .i64 s.Cents], .pointer (some ⟨b, 0, none⟩)] w fun e w' =>
      e = .returned (.bool (strangeP r s)) ∧ Ext w w' := by
  have la : b < w.heap.size := World.block_lt_of_cell? w _ c0
  rcases chain3 (s.Zone == r.Zone) (decide (s.Grams < r.Grams)) (decide (r.Cents < s.Cents)) with h1 | ⟨h1, h2⟩ | ⟨h1, h2, h3⟩ | ⟨h1, h2, h3⟩
  all_goals
    go_enter Try.func67, Try.ntmps67
    go_wp2
    all_goals
      go_ret
      exact ⟨ret_bool (by first | (simp [strangeP, h1]; done) | (simp [strangeP, h1, h2]; done) | (simp [strangeP, h1, h2, h3]; done) | (simp only [strangeP, h1, h2, h3, Bool.true_and]; rw [Bool.eq_iff_iff]; simp only [decide_eq_true_eq]; omega)), (by repeat (first | exact Ext.refl _ | assumption | refine Ext.trans ?_ (by assumption) | refine Ext.drew ?_ | refine Ext.drewN ?_ _ | refine Ext.alloc ?_ _))⟩


set_option maxRecDepth 100000 in
set_option maxHeartbeats 1000000 in
theorem IndexStrange_any (A : Option Addr) (n c : Nat) (xs : List Rate) (r : Rate) (b : Nat) (w : World) (h : RateL w A n xs) (c0 : w.cell? ⟨b, 0, none⟩ = some (.int .i64 r.Zone)) (c1 : w.cell? ⟨b, 1, none⟩ = some (.int .i64 r.Grams)) (c2 : w.cell? ⟨b, 2, none⟩ = some (.int .i64 r.From)) (c3 : w.cell? ⟨b, 3, none⟩ = some (.int .i64 r.Until)) (c4 : w.cell? ⟨b, 4, none⟩ = some (.int .i64 r.Cents)) :
    Calls Try.prog 69 #[.slice A n c, .func (.func 67) #[] #[.pointer (some ⟨b, 0, none⟩)]] w fun e w' =>
      e = .returned (.int .i64 (firstAt (strangeP r) xs)) ∧ Ext w w' := by
  have C0 := Lib.hid c0
  clear c0
  have C1 := Lib.hid c1
  clear c1
  have C2 := Lib.hid c2
  clear c2
  have C3 := Lib.hid c3
  clear c3
  have C4 := Lib.hid c4
  clear c4
  have hsm := h.small
  go_enter Try.func69, Try.ntmps69
  go_wp2
  go_loopw [8] (fun i wr => ∃ k : Nat, k ≤ n ∧ i = .int .i64 k ∧ noneTo (strangeP r) xs k ∧ Ext w wr) (fun i _ => n - (intOf i).toNat)
  case atStart => exact ⟨0, Nat.zero_le _, rfl, noneTo_zero _ _, Ext.refl _⟩
  case round =>
    obtain ⟨k, hk, rfl, hno, he⟩ := hrel
    have HN := Lib.hid hno
    clear hno
    by_cases hlt : k < n
    · obtain ⟨b', off, x, rfl, hb, hx, g0, g1, g2, g3, g4⟩ := (h.ext he).at_ hlt
      have C := Lib.hid ((fun (x : Rate) (r : Rate) (b : Nat) => Strange1_any x r b) x r b wr (he.cell1 C0.out) (he.cell1 C1.out) (he.cell1 C2.out) (he.cell1 C3.out) (he.cell1 C4.out))
      cases ht : strangeP r x
      · go_wp2_with (go_at_call 67; refine C.out.mono ?_; rintro e wa ⟨rfl, he1⟩; rw [ht])
        go_roundw
        case rel => exact ⟨k + 1, by omega, by go_num, noneTo_succ HN.out hx.out ht, he.trans he1⟩
        case measure => simp [intOf]; omega
      · go_wp2_with (go_at_call 67; refine C.out.mono ?_; rintro e wa ⟨rfl, he1⟩; rw [ht])
        go_ret
        exact ⟨ret_int (firstAt_hit HN.out hx.out ht).symm, he.trans he1⟩
    · obtain rfl : k = n := by omega
      go_wp2
      go_ret
      exact ⟨ret_int (firstAt_miss (by have := h.len; omega) HN.out).symm, he⟩
set_option maxRecDepth 100000 in
set_option maxHeartbeats 1000000 in
theorem ContainsStrange_any (A : Option Addr) (n c : Nat) (xs : List Rate) (r : Rate) (b : Nat) (w : World) (h : RateL w A n xs) (c0 : w.cell? ⟨b, 0, none⟩ = some (.int .i64 r.Zone)) (c1 : w.cell? ⟨b, 1, none⟩ = some (.int .i64 r.Grams)) (c2 : w.cell? ⟨b, 2, none⟩ = some (.int .i64 r.From)) (c3 : w.cell? ⟨b, 3, none⟩ = some (.int .i64 r.Until)) (c4 : w.cell? ⟨b, 4, none⟩ = some (.int .i64 r.Cents)) :
    Calls Try.prog 66 #[.slice A n c, .func (.func 67) #[] #[.pointer (some ⟨b, 0, none⟩)]] w fun e w' =>
      e = .returned (.bool (xs.any (strangeP r))) ∧ Ext w w' := by
  have C := Lib.hid (IndexStrange_any A n c xs r b w h c0 c1 c2 c3 c4)
  clear c0
  clear c1
  clear c2
  clear c3
  clear c4
  have hl := firstAt_lo (strangeP r) xs
  have ha := Lib.hid (firstAt_any (strangeP r) xs)
  generalize firstAt (strangeP r) xs = f at *
  go_enter Try.func66, Try.ntmps66
  go_wp2_with (go_at_call 69; refine C.out.mono ?_; rintro e wa ⟨rfl, he1⟩)
  go_ret
  exact ⟨ret_bool ha.out, he1⟩

set_option maxRecDepth 100000 in
set_option maxHeartbeats 1000000 in
theorem StrangeRatesI_any (A : Option Addr) (n c : Nat) (xs : List Rate) (w : World) (h : RateL w A n xs) :
    Calls Try.prog 28 #[.slice A n c] w (RowPost 3 1 (ints (strangeR xs)) (RatesOk xs) w) := by
  obtain ⟨i0, hi, hz0, hz1, hz2⟩ := info_parts intInfo
  have hsm := h.small
  cases h1 : RatesOk xs
  · have hr : strangeR xs = [] := by simp [strangeR, h1]
    rw [hr]
    go_enter Try.func28, Try.ntmps28
    go_wp2_with (go_at_call 53; refine (areRates_any _ _ _ xs _ h).mono ?_; rintro e wa ⟨rfl, he1⟩; have hc1 := he1.cells)
    go_ret2
    exact ⟨none, 0, 0, rfl, own_nil _ _ _ _, he1⟩
  · have hr : strangeR xs = idxs (strangeAt xs) xs.length := by simp [strangeR, h1]
    rw [hr]
    have HI := Lib.hid hi
    have HZ0 := Lib.hid hz0
    have HZ1 := Lib.hid hz1
    have HZ2 := Lib.hid hz2
    clear hi hz0 hz1 hz2 hr
    go_enter Try.func28, Try.ntmps28
    go_wp2_with (go_at_call 53; refine (areRates_any _ _ _ xs _ h).mono ?_; rintro e wa ⟨rfl, he1⟩; have hc1 := he1.cells)
    clear hc1
    go_loopw [4, 12] (fun o i wr => ∃ (k : Nat) (A : Option Addr) (m c : Nat), k ≤ n ∧ m ≤ k ∧ i = .int .i64 k ∧ o = .slice A m c ∧ wr.ownsRow w.heap.size 3 1 (.slice A m c) m (ints (idxs (strangeAt xs) k)) ∧ Ext w wr) (fun _ i _ => n - (intOf i).toNat)
    case atStart => exact ⟨0, none, 0, 0, Nat.zero_le _, Nat.le_refl _, rfl, rfl, own_nil _ _ _ _, he1⟩
    case round =>
      obtain ⟨k, O, m, oc, hk, hmk, rfl, rfl, ho, he⟩ := hrel
      by_cases hlt : k < n
      · obtain ⟨b, off, x, rfl, hb, hx, g0, g1, g2, g3, g4⟩ := (h.ext he).at_ hlt
        have hat := strangeAt_at hx.out
        have C := Lib.hid (fun T => ContainsStrange_any _ _ c xs x wr.heap.size (wr.alloc (.cells #[.int .i64 x.Zone, .int .i64 x.Grams, .int .i64 x.From, .int .i64 x.Until, .int .i64 x.Cents] T)) (h.ext (he.alloc _)) (new_cell _ _ _ 0 _ rfl) (new_cell _ _ _ 1 _ rfl) (new_cell _ _ _ 2 _ rfl) (new_cell _ _ _ 3 _ rfl) (new_cell _ _ _ 4 _ rfl))
        cases ht : xs.any (strangeP x)
        · rw [ht] at hat
          have hs := Lib.hid (idxs_no hat)
          clear hat
          go_wp2_with (go_at_call 66; refine (C.out _).mono ?_; rintro e wb ⟨rfl, he2⟩; rw [ht])
          go_roundw
          case rel => exact ⟨k + 1, O, m, oc, by omega, by omega, by go_num, rfl, by rw [hs.out]; exact he2.own (ho.alloc _), (he.alloc _).trans he2⟩
          case measure => simp [intOf]; omega
        · rw [ht] at hat
          have hs := Lib.hid (idxs_yes hat)
          clear hat
          go_wp2_with (first
            | (go_at_call 66; refine (C.out _).mono ?_; rintro e wb ⟨rfl, he2⟩; rw [ht])
            | (at_builtin; refine wpList_append_own _ rfl (.tmp 20) (.tmp 22) 38 rfl w.heap.size 3 i0 (.int .i64 0) 1 8 Try.underlying38 HI.out HZ0.out HZ1.out HZ2.out rfl (by decide) (.slice O m oc) m (ints (idxs (strangeAt xs) k)) rfl ((he2.own (ho.alloc _)).alloc _) ⟨wb.heap.size, 0, none⟩ 1 1 [.int .i64 (k : Int)] rfl rfl ?c1 ?c2 ?c3 ?c4 ?c5 ?_
               case c1 => exact cell1 _ _ _
               case c2 => simp [Value.oneCell']
               case c3 => unfold maxLen; omega
               case c4 => omega
               case c5 => have := he.size; have := he2.size; simp at *; omega
               intro v' w' hown' hgrow _))
          obtain ⟨O', oc', hv⟩ := own_slice hown'
          go_roundw
          case rel => exact ⟨k + 1, O', m + 1, oc', by omega, by omega, by go_num, hv, by rw [hs.out, ← hv]; exact hown', (((he.alloc _).trans he2).alloc _).grown hgrow (fun k hk => (ho.lt k hk).1)⟩
          case measure => simp [intOf]; omega
      · obtain rfl : n = k := by omega
        rw [← h.len] at ho
        have hl := h.len
        go_wp2
        go_ret2
        exact ⟨O, m, oc, rfl, ho, he⟩


set_option maxRecDepth 100000 in
set_option maxHeartbeats 1000000 in
theorem StrangeRatesS_any (A : Option Addr) (n c : Nat) (xs : List Rate) (w : World) (h : RateL w A n xs) :
    Calls Try.prog 27 #[.slice A n c] w (RowPost 3 1 (ints (strangeR xs)) (RatesOk xs) w) := by
  obtain ⟨i0, hi, hz0, hz1, hz2⟩ := info_parts intInfo
  have hsm := h.small
  cases h1 : RatesOk xs
  · have hr : strangeR xs = [] := by simp [strangeR, h1]
    rw [hr]
    go_enter Try.func27, Try.ntmps27
    go_wp2_with (go_at_call 52; refine (l8Good_any _ _ _ xs _ (h.ext ((Ext.refl _).alloc _))).mono ?_; rintro e wa ⟨rfl, he1⟩; have hc1 := he1.cells)
    go_ret2
    exact ⟨some ⟨w.heap.size, 0, none⟩, 0, 0, rfl, he1.own (own_empty w _ _ _ (Nat.le_refl _)), ((Ext.refl _).alloc _).trans he1⟩
  · have hr : strangeR xs = idxs (strangeAt xs) xs.length := by simp [strangeR, h1]
    rw [hr]
    have HI := Lib.hid hi
    have HZ0 := Lib.hid hz0
    have HZ1 := Lib.hid hz1
    have HZ2 := Lib.hid hz2
    clear hi hz0 hz1 hz2 hr
    go_enter Try.func27, Try.ntmps27
    go_wp2_with (go_at_call 52; refine (l8Good_any _ _ _ xs _ (h.ext ((Ext.refl _).alloc _))).mono ?_; rintro e wa ⟨rfl, he1⟩; have hc1 := he1.cells)
    clear hc1
    have hg := Lib.hid (RatesOk_good h1)
    go_loopw [4, 5] (fun o i wr => ∃ (k : Nat) (A : Option Addr) (m c : Nat), k ≤ n ∧ m ≤ k ∧ i = .int .i64 k ∧ o = .slice A m c ∧ wr.ownsRow w.heap.size 3 1 (.slice A m c) m (ints (idxs (strangeAt xs) k)) ∧ Ext w wr) (fun _ i _ => n - (intOf i).toNat)
    case atStart => exact ⟨0, some ⟨w.heap.size, 0, none⟩, 0, 0, Nat.zero_le _, Nat.le_refl _, rfl, rfl, he1.own (own_empty w _ _ _ (Nat.le_refl _)), ((Ext.refl _).alloc _).trans he1⟩
    case round =>
      obtain ⟨k, O, m, oc, hk, hmk, rfl, rfl, ho, he⟩ := hrel
      by_cases hlt : k < n
      · obtain ⟨b, off, x, rfl, hb, hx, g0, g1, g2, g3, g4⟩ := (h.ext he).at_ hlt
        have hat := strangeAt_at hx.out
        rw [strange_before h1 hx.out] at hat
        go_wp2
        go_loopw [6, 7] (fun s i wi => ∃ j : Nat, j ≤ k ∧ i = .int .i64 j ∧ s = .bool ((xs.take j).any (strangeP x)) ∧ Ext wr wi) (fun _ i _ => k - (intOf i).toNat)
        case atStart => exact ⟨0, Nat.zero_le _, rfl, by simp, Ext.refl _⟩
        case round =>
          obtain ⟨j, hj, rfl, rfl, hei⟩ := hrel
          by_cases hjk : j < k
          · obtain ⟨b', off', y, eA, hb', hy, q0, q1, q2, q3, q4⟩ := (h.ext (he.trans hei)).at_ (show j < n by omega)
            injection eA with eA
            injection eA with e1 e2
            subst e1; subst e2
            obtain ⟨b2, off2, x2, eA2, hb2, hx2, p0, p1, p2, p3, p4⟩ := (h.ext (he.trans hei)).at_ hlt
            injection eA2 with eA2
            injection eA2 with e3 e4
            subst e3; subst e4
            obtain rfl : x = x2 := by have := hx.out.symm.trans hx2.out; injection this
            have hsp := Lib.hid (strange_spec (hg.out x (List.mem_of_getElem? hx.out)) (hg.out y (List.mem_of_getElem? hy.out)))
            have hts := Lib.hid (any_take_succ (p := strangeP x) hy.out)
            clear g0 g1 g2 g3 g4 hat
            go_wp2
            go_region
            all_goals
              cases hs0 : (xs.take j).any (strangeP x)
              · rcases chain5 (y.Zone == x.Zone) (decide (y.Grams < x.Grams)) (decide (y.From ≤ x.Until)) (decide (x.From ≤ y.Until)) (decide (x.Cents < y.Cents)) with k1 | ⟨k1, k2⟩ | ⟨k1, k2, k3⟩ | ⟨k1, k2, k3, k4⟩ | ⟨k1, k2, k3, k4, k5⟩ | ⟨k1, k2, k3, k4, k5⟩
                all_goals
                  go_wp2
                  go_roundw
                  case rel => exact ⟨j + 1, by omega, by go_num, by (rw [hts.out, hs0, hsp.out]; simp [*]), hei.trans (by repeat (first | exact Ext.refl _ | assumption | refine Ext.trans ?_ (by assumption) | refine Ext.drew ?_ | refine Ext.drewN ?_ _ | refine Ext.alloc ?_ _))⟩
                  case measure => simp [intOf]; omega
              · go_wp2
                go_roundw
                case rel => exact ⟨j + 1, by omega, by go_num, by (rw [hts.out, hs0]; rfl), hei.trans (by repeat (first | exact Ext.refl _ | assumption | refine Ext.trans ?_ (by assumption) | refine Ext.drew ?_ | refine Ext.drewN ?_ _ | refine Ext.alloc ?_ _))⟩
                case measure => simp [intOf]; omega
          · obtain rfl : k = j := by omega
            have he2 := he.trans hei
            have ho2 := hei.own ho
            have HO := Lib.hid ho
            clear ho g0 g1 g2 g3 g4
            cases ht : (xs.take k).any (strangeP x)
            · rw [ht] at hat
              have hs := Lib.hid (idxs_no hat)
              clear hat
              go_wp2
              go_roundw
              case rel => exact ⟨k + 1, O, m, oc, by omega, by omega, by go_num, rfl, by rw [hs.out]; exact ho2, he2⟩
              case measure => simp [intOf]; omega
            · rw [ht] at hat
              have hs := Lib.hid (idxs_yes hat)
              clear hat
              go_wp2_with (first
                | (at_builtin; refine wpList_append_own _ rfl (.tmp 71) (.tmp 73) 38 rfl w.heap.size 3 i0 (.int .i64 0) 1 8 Try.underlying38 HI.out HZ0.out HZ1.out HZ2.out rfl (by decide) (.slice O m oc) m (ints (idxs (strangeAt xs) k)) rfl (ho2.alloc _) ⟨wr.heap.size, 0, none⟩ 1 1 [.int .i64 (k : Int)] rfl rfl ?c1 ?c2 ?c3 ?c4 ?c5 ?_
                   case c1 => exact cell1 _ _ _
                   case c2 => simp [Value.oneCell']
                   case c3 => unfold maxLen; omega
                   case c4 => omega
                   case c5 => have := he2.size; simp at *; omega
                   intro v' w' hown' hgrow _))
              obtain ⟨O', oc', hv⟩ := own_slice hown'
              go_roundw
              case rel => exact ⟨k + 1, O', m + 1, oc', by omega, by omega, by go_num, hv, by rw [hs.out, ← hv]; exact hown', (he2.alloc _).grown hgrow (fun k hk => (ho2.lt k hk).1)⟩
              case measure => simp [intOf]; omega
      · obtain rfl : n = k := by omega
        rw [← h.len] at ho
        have hl := h.len
        go_wp2
        go_ret2
        exact ⟨O, m, oc, rfl, ho, he⟩

end Go.Proofs.Ytkganlojknhajaa
