/- CheapestZones (made by wip/rates4.py). -/
import Derived.Test.YtkganlojknhajaaRateF
import Derived.Test.YtkganlojknhajaaIdx
namespace Go.Proofs.Ytkganlojknhajaa
open Go.RowKit
set_option linter.unusedVariables false
set_option linter.unusedSimpArgs false
attribute [local go_sem] ExtOf.cell

def cheap (xs : List Rate) (d g : Int) : Nat → Int × List Int
  | 0 => (0, [])
  | k + 1 => if rateAt xs d k g = 0 then cheap xs d g k else if (cheap xs d g k).2 = [] ∨ rateAt xs d k g < (cheap xs d g k).1 then (rateAt xs d k g, [(k : Int)])
    else if rateAt xs d k g = (cheap xs d g k).1 then ((cheap xs d g k).1, (cheap xs d g k).2 ++ [(k : Int)]) else cheap xs d g k
def askC (xs : List Rate) (d g : Int) : Bool := RatesOk xs && (inB d 0 4000 && inB g 1 2000)
def cheapR (xs : List Rate) (d g : Int) : List Int := if askC xs d g then (cheap xs d g 10).2 else []
theorem ints_snoc (l : List Int) (a : Int) : ints (l ++ [a]) = ints l ++ [.int .i64 a] := by simp [ints]
theorem own_one (w : World) (base T : Nat) (u : Value) (h : base ≤ w.heap.size) : (w.alloc (.cells #[u] T)).ownsRow base T 1 (.slice (some ⟨w.heap.size, 0, none⟩) 1 1) 1 [u] :=
  ⟨by simp, .inr ⟨w.heap.size, 1, #[u], rfl, h, heap_alloc_new w _, Nat.le_refl _, by unfold maxLen; omega, by simp, by simp⟩⟩
theorem cheap_inv {xs : List Rate} {d g : Int} (h : RatesOk xs = true) : ∀ k, 0 ≤ (cheap xs d g k).1 ∧ ((cheap xs d g k).2 = [] ↔ (cheap xs d g k).1 = 0) ∧ (cheap xs d g k).2.length ≤ k
  | 0 => by simp [cheap]
  | k + 1 => by
    obtain ⟨i1, i2, i3⟩ := cheap_inv (d := d) (g := g) h k
    obtain ⟨r1, _, _⟩ := rateAt_pos (d := d) (z := (k : Int)) (g := g) h
    unfold cheap
    split
    · exact ⟨i1, i2, by omega⟩
    · split
      · refine ⟨r1, by simp; assumption, by simp⟩
      · split
        · refine ⟨i1, ?_, by simp; omega⟩
          rename_i h1 h2 h3
          constructor
          · intro e; simp at e
          · intro e; exact absurd (i2.2 e) (fun e2 => h2 (.inl e2))
        · exact ⟨i1, i2, by omega⟩
theorem cheap_len {xs : List Rate} {d g : Int} : (cheapR xs d g).length ≤ 10 := by
  unfold cheapR askC
  split
  · rename_i h
    simp only [Bool.and_eq_true] at h
    exact (cheap_inv h.1 10).2.2
  · simp
theorem cheap_skip {xs : List Rate} {d g : Int} {k : Nat} (h : rateAt xs d k g = 0) : cheap xs d g (k + 1) = cheap xs d g k := by simp [cheap, h]
theorem cheap_new {xs : List Rate} {d g : Int} {k : Nat} (h : ¬ rateAt xs d k g = 0) (h2 : (cheap xs d g k).2 = [] ∨ rateAt xs d k g < (cheap xs d g k).1) : cheap xs d g (k + 1) = (rateAt xs d k g, [(k : Int)]) := by rw [cheap, if_neg h, if_pos h2]
theorem cheap_more {xs : List Rate} {d g : Int} {k : Nat} (h : ¬ rateAt xs d k g = 0) (h2 : ¬ ((cheap xs d g k).2 = [] ∨ rateAt xs d k g < (cheap xs d g k).1)) (h3 : rateAt xs d k g = (cheap xs d g k).1) : cheap xs d g (k + 1) = ((cheap xs d g k).1, (cheap xs d g k).2 ++ [(k : Int)]) := by rw [cheap, if_neg h, if_neg h2, if_pos h3]
theorem cheap_same {xs : List Rate} {d g : Int} {k : Nat} (h : ¬ rateAt xs d k g = 0) (h2 : ¬ ((cheap xs d g k).2 = [] ∨ rateAt xs d k g < (cheap xs d g k).1)) (h3 : ¬ rateAt xs d k g = (cheap xs d g k).1) : cheap xs d g (k + 1) = cheap xs d g k := by rw [cheap, if_neg h, if_neg h2, if_neg h3]


set_option maxRecDepth 100000 in
set_option maxHeartbeats 1000000 in
theorem CheapestZonesI_any (A : Option Addr) (n c : Nat) (xs : List Rate) (d g : Int) (w : World) (h : RateL w A n xs) :
    Calls Try.prog 34 #[.slice A n c, .int .i64 d, .int .i64 g] w (RowPost 3 1 (ints (cheapR xs d g)) (askC xs d g) w) := by
  obtain ⟨i0, hi, hz0, hz1, hz2⟩ := info_parts intInfo
  have hsm := h.small
  rcases chain3 (RatesOk xs) (inB d 0 4000) (inB g 1 2000) with h1 | ⟨h1, h2⟩ | ⟨h1, h2, h3⟩ | ⟨h1, h2, h3⟩
  iterate 3
    · have ha : askC xs d g = false := by simp [askC, *]
      have hr : cheapR xs d g = [] := by simp [cheapR, ha]
      rw [ha, hr]
      go_enter Try.func34, Try.ntmps34
      go_wp2_with (first | (go_at_call 53; refine (areRates_any _ _ _ xs _ h).mono ?_; rintro e wa ⟨rfl, he1⟩; have hc1 := he1.cells) | (go_at_call 59; refine (isDay_any _ _).mono ?_; rintro e w' ⟨rfl, rfl⟩) | (go_at_call 61; refine (isWeight_any _ _).mono ?_; rintro e w' ⟨rfl, rfl⟩))
      go_ret2
      exact ⟨none, 0, 0, rfl, own_nil _ _ _ _, he1⟩
  · have ha : askC xs d g = true := by simp [askC, h1, h2, h3]
    have hr : cheapR xs d g = (cheap xs d g 10).2 := by simp [cheapR, ha]
    rw [ha, hr]
    have HI := Lib.hid hi
    have HZ0 := Lib.hid hz0
    have HZ1 := Lib.hid hz1
    have HZ2 := Lib.hid hz2
    clear hi hz0 hz1 hz2 ha hr
    go_enter Try.func34, Try.ntmps34
    go_wp2_with (first | (go_at_call 53; refine (areRates_any _ _ _ xs _ h).mono ?_; rintro e wa ⟨rfl, he1⟩; have hc1 := he1.cells) | (go_at_call 59; refine (isDay_any _ _).mono ?_; rintro e w' ⟨rfl, rfl⟩) | (go_at_call 61; refine (isWeight_any _ _).mono ?_; rintro e w' ⟨rfl, rfl⟩))
    clear hc1
    go_loopw [8, 9, 26] (fun o l i wr => ∃ (k : Nat) (A : Option Addr) (c : Nat), k ≤ 10 ∧ i = .int .i64 k ∧ o = .slice A (cheap xs d g k).2.length c ∧ l = .int .i64 (cheap xs d g k).1 ∧ wr.ownsRow w.heap.size 3 1 (.slice A (cheap xs d g k).2.length c) (cheap xs d g k).2.length (ints (cheap xs d g k).2) ∧ Ext w wr) (fun _ _ i _ => 10 - (intOf i).toNat)
    case atStart => exact ⟨0, none, 0, Nat.zero_le _, rfl, rfl, rfl, own_nil _ _ _ _, he1⟩
    case round =>
      obtain ⟨k, O, oc, hk, rfl, rfl, rfl, ho, he⟩ := hrel
      obtain ⟨i1, i2, i3⟩ := cheap_inv (d := d) (g := g) h1 k
      by_cases hlt : k < 10
      · obtain ⟨r1, r2, r3⟩ := rateAt_pos (d := d) (z := (k : Int)) (g := g) h1
        have C := Lib.hid (rateFor_any A n c xs d (k : Int) g wr (h.ext he))
        have S0 := Lib.hid (cheap_skip (xs := xs) (d := d) (g := g) (k := k))
        have S1 := Lib.hid (cheap_new (xs := xs) (d := d) (g := g) (k := k))
        have S2 := Lib.hid (cheap_more (xs := xs) (d := d) (g := g) (k := k))
        have S3 := Lib.hid (cheap_same (xs := xs) (d := d) (g := g) (k := k))
        generalize hcl : (cheap xs d g k).1 = l at *
        generalize hcL : (cheap xs d g k).2 = L at *
        have hl := Lib.hid hcl
        have hL := Lib.hid hcL
        clear hcl hcL
        generalize rateAt xs d (k : Int) g = ra at *
        cases ht : hasRate xs d (k : Int) g
        · rw [ht] at r3
          have hra : ra = 0 := by simp at r3; omega
          have hs := Lib.hid (S0.out hra)
          have hz : (ra == 0) = true := by simp [hra]
          have hz' : decide (ra = 0) = true := by simp [hra]
          clear hra
          go_wp2_with (go_at_call 62; refine C.out.mono ?_; rintro e wb ⟨rfl, he2⟩; rw [ht])
          go_roundw
          case rel => exact ⟨k + 1, O, oc, by omega, by go_num, by rw [hs.out, hL.out], by rw [hs.out, hl.out], by rw [hs.out, hL.out]; exact he2.own ho, he.trans he2⟩
          case measure => simp [intOf]; omega
        · rw [ht] at r3
          have hra : ¬ ra = 0 := by simp at r3; omega
          have hra0 : 0 < ra := by omega
          have hz : (ra == 0) = false := by simp [hra]
          have hz' : decide (ra = 0) = false := by simp [hra]
          clear r3
          by_cases hem : L = []
          · obtain rfl : l = 0 := i2.1 hem
            subst hem
            have hs := Lib.hid (S1.out hra (.inl rfl))
            clear i2
            go_wp2_with (first
                | (go_at_call 62; refine C.out.mono ?_; rintro e wb ⟨rfl, he2⟩; rw [ht])
                | (at_builtin; refine wpList_append_own _ rfl (.tmp 51) (.tmp 53) 38 rfl w.heap.size 3 i0 (.int .i64 0) 1 8 Try.underlying38 HI.out HZ0.out HZ1.out HZ2.out rfl (by decide) (.slice none 0 0) 0 ([]) rfl (own_nil _ _ _ _) ⟨wb.heap.size, 0, none⟩ 1 1 [.int .i64 (k : Int)] rfl rfl ?c1 ?c2 ?c3 ?c4 ?c5 ?_
                   case c1 => exact cell1 _ _ _
                   case c2 => simp [Value.oneCell']
                   case c3 => unfold maxLen; omega
                   case c4 => omega
                   case c5 => have := he.size; have := he2.size; simp at *; omega
                   intro v' w' hown' hgrow _))
            obtain ⟨O', oc', hv⟩ := own_slice hown'
            go_roundw
            case rel => exact ⟨k + 1, O', oc', by omega, by go_num, by rw [hs.out]; exact hv, by rw [hs.out], by rw [hs.out]; rw [hv] at hown'; exact hown', ((he.trans he2).alloc _).grown hgrow (fun k hk => by cases hk)⟩
            case measure => simp [intOf]; omega
          · have hl0 : 0 < l := by
              rcases Int.lt_or_le 0 l with h0 | h0
              · exact h0
              · exact absurd (i2.2 (by omega)) hem
            have hlen : 0 < L.length := List.length_pos_iff.2 hem
            have hd0 : decide (0 < l) = true := by simpa using hl0
            have hd1 : ((L.length : Int) == 0) = false := by simp; exact hem
            have hd2 : decide ((L.length : Int) = 0) = false := by simp; exact hem
            have hd3 : (L.length == 0) = false := by simp; exact hem
            have HEM := Lib.hid hem
            clear i2 hem
            rcases Int.lt_trichotomy ra l with hq | hq | hq
            · have hs := Lib.hid (S1.out hra (.inr hq))
              have hq1 : decide (ra < l) = true := by simpa using hq
              have hq2 : decide (l < ra) = false := by simp; omega
              have hq3 : (ra == l) = false := by simp; omega
              have hq4 : decide (ra = l) = false := by simp; omega
              go_wp2_with (first
                  | (go_at_call 62; refine C.out.mono ?_; rintro e wb ⟨rfl, he2⟩; rw [ht])
                  | (at_builtin; refine wpList_append_own _ rfl (.tmp 51) (.tmp 53) 38 rfl w.heap.size 3 i0 (.int .i64 0) 1 8 Try.underlying38 HI.out HZ0.out HZ1.out HZ2.out rfl (by decide) (.slice none 0 0) 0 ([]) rfl (own_nil _ _ _ _) ⟨wb.heap.size, 0, none⟩ 1 1 [.int .i64 (k : Int)] rfl rfl ?c1 ?c2 ?c3 ?c4 ?c5 ?_
                     case c1 => exact cell1 _ _ _
                     case c2 => simp [Value.oneCell']
                     case c3 => unfold maxLen; omega
                     case c4 => omega
                     case c5 => have := he.size; have := he2.size; simp at *; omega
                     intro v' w' hown' hgrow _))
              obtain ⟨O', oc', hv⟩ := own_slice hown'
              go_roundw
              case rel => exact ⟨k + 1, O', oc', by omega, by go_num, by rw [hs.out]; exact hv, by rw [hs.out], by rw [hs.out]; rw [hv] at hown'; exact hown', ((he.trans he2).alloc _).grown hgrow (fun k hk => by cases hk)⟩
              case measure => simp [intOf]; omega
            · have hs := Lib.hid (S2.out hra (fun h => by rcases h with h | h; exact HEM.out h; omega) hq)
              have hq1 : decide (ra < l) = false := by simp; omega
              have hq2 : decide (l < ra) = false := by simp; omega
              have hq3 : (ra == l) = true := by simpa using hq
              have hq4 : decide (ra = l) = true := by simpa using hq
              clear hq
              go_wp2_with (first
                  | (go_at_call 62; refine C.out.mono ?_; rintro e wb ⟨rfl, he2⟩; rw [ht])
                  | (at_builtin; refine wpList_append_own _ rfl (.tmp 51) (.tmp 53) 38 rfl w.heap.size 3 i0 (.int .i64 0) 1 8 Try.underlying38 HI.out HZ0.out HZ1.out HZ2.out rfl (by decide) (.slice O L.length oc) L.length (ints L) rfl ((he2.own ho).alloc _) ⟨wb.heap.size, 0, none⟩ 1 1 [.int .i64 (k : Int)] rfl rfl ?c1 ?c2 ?c3 ?c4 ?c5 ?_
                     case c1 => exact cell1 _ _ _
                     case c2 => simp [Value.oneCell']
                     case c3 => unfold maxLen; omega
                     case c4 => omega
                     case c5 => have := he.size; have := he2.size; simp at *; omega
                     intro v' w' hown' hgrow _))
              obtain ⟨O', oc', hv⟩ := own_slice hown'
              go_roundw
              case rel => exact ⟨k + 1, O', oc', by omega, by go_num, by rw [hs.out]; simpa using hv, by rw [hs.out], by rw [hs.out]; simp only [ints_snoc, List.length_append, List.length_singleton]; rw [← hv]; exact hown', ((he.trans he2).alloc _).grown hgrow (fun k hk => (ho.lt k hk).1)⟩
              case measure => simp [intOf]; omega
            · have hs := Lib.hid (S3.out hra (fun h => by rcases h with h | h; exact HEM.out h; omega) (by omega))
              have hq1 : decide (ra < l) = false := by simp; omega
              have hq2 : decide (l < ra) = true := by simpa using hq
              have hq3 : (ra == l) = false := by simp; omega
              have hq4 : decide (ra = l) = false := by simp; omega
              go_wp2_with (go_at_call 62; refine C.out.mono ?_; rintro e wb ⟨rfl, he2⟩; rw [ht])
              go_roundw
              case rel => exact ⟨k + 1, O, oc, by omega, by go_num, by rw [hs.out, hL.out], by rw [hs.out, hl.out], by rw [hs.out, hL.out]; exact he2.own ho, he.trans he2⟩
              case measure => simp [intOf]; omega
      · obtain rfl : k = 10 := by omega
        go_wp2
        go_ret2
        exact ⟨O, _, oc, rfl, ho, he⟩


set_option maxRecDepth 100000 in
set_option maxHeartbeats 1000000 in
theorem CheapestZonesS_any (A : Option Addr) (n c : Nat) (xs : List Rate) (d g : Int) (w : World) (h : RateL w A n xs) :
    Calls Try.prog 33 #[.slice A n c, .int .i64 d, .int .i64 g] w (RowPost 3 1 (ints (cheapR xs d g)) (askC xs d g) w) := by
  obtain ⟨i0, hi, hz0, hz1, hz2⟩ := info_parts intInfo
  have hsm := h.small
  rcases chain3 (RatesOk xs) (inB d 0 4000) (inB g 1 2000) with h1 | ⟨h1, h2⟩ | ⟨h1, h2, h3⟩ | ⟨h1, h2, h3⟩
  iterate 3
    · have ha : askC xs d g = false := by simp [askC, *]
      have hr : cheapR xs d g = [] := by simp [cheapR, ha]
      rw [ha, hr]
      go_enter Try.func33, Try.ntmps33
      go_wp2_with (first | (go_at_call 52; refine (l8Good_any _ _ _ xs _ (h.ext ((Ext.refl _).alloc _))).mono ?_; rintro e wa ⟨rfl, he1⟩; have hc1 := he1.cells) | (go_at_call 55; refine (l2Day_any _ _).mono ?_; rintro e w' ⟨rfl, rfl⟩) | (go_at_call 57; refine (l8Grams_any _ _).mono ?_; rintro e w' ⟨rfl, rfl⟩))
      go_ret2
      exact ⟨some ⟨w.heap.size, 0, none⟩, 0, 0, rfl, he1.own (own_empty w _ _ _ (Nat.le_refl _)), ((Ext.refl _).alloc _).trans he1⟩
  · have ha : askC xs d g = true := by simp [askC, h1, h2, h3]
    have hr : cheapR xs d g = (cheap xs d g 10).2 := by simp [cheapR, ha]
    rw [ha, hr]
    have HI := Lib.hid hi
    have HZ0 := Lib.hid hz0
    have HZ1 := Lib.hid hz1
    have HZ2 := Lib.hid hz2
    clear hi hz0 hz1 hz2 ha hr
    go_enter Try.func33, Try.ntmps33
    go_wp2_with (first | (go_at_call 52; refine (l8Good_any _ _ _ xs _ (h.ext ((Ext.refl _).alloc _))).mono ?_; rintro e wa ⟨rfl, he1⟩; have hc1 := he1.cells) | (go_at_call 55; refine (l2Day_any _ _).mono ?_; rintro e w' ⟨rfl, rfl⟩) | (go_at_call 57; refine (l8Grams_any _ _).mono ?_; rintro e w' ⟨rfl, rfl⟩))
    clear hc1
    go_loopw [8, 9, 10] (fun o l i wr => ∃ (k : Nat) (A : Option Addr) (c : Nat), k ≤ 10 ∧ i = .int .i64 k ∧ o = .slice A (cheap xs d g k).2.length c ∧ l = .int .i64 (cheap xs d g k).1 ∧ wr.ownsRow w.heap.size 3 1 (.slice A (cheap xs d g k).2.length c) (cheap xs d g k).2.length (ints (cheap xs d g k).2) ∧ Ext w wr) (fun _ _ i _ => 10 - (intOf i).toNat)
    case atStart => exact ⟨0, some ⟨w.heap.size, 0, none⟩, 0, Nat.zero_le _, rfl, rfl, rfl, he1.own (own_empty w _ _ _ (Nat.le_refl _)), ((Ext.refl _).alloc _).trans he1⟩
    case round =>
      obtain ⟨k, O, oc, hk, rfl, rfl, rfl, ho, he⟩ := hrel
      obtain ⟨i1, i2, i3⟩ := cheap_inv (d := d) (g := g) h1 k
      by_cases hlt : k < 10
      · obtain ⟨r1, r2, r3⟩ := rateAt_pos (d := d) (z := (k : Int)) (g := g) h1
        have C := Lib.hid (l8For_any A n c xs d (k : Int) g wr (h.ext he))
        have S0 := Lib.hid (cheap_skip (xs := xs) (d := d) (g := g) (k := k))
        have S1 := Lib.hid (cheap_new (xs := xs) (d := d) (g := g) (k := k))
        have S2 := Lib.hid (cheap_more (xs := xs) (d := d) (g := g) (k := k))
        have S3 := Lib.hid (cheap_same (xs := xs) (d := d) (g := g) (k := k))
        generalize hcl : (cheap xs d g k).1 = l at *
        generalize hcL : (cheap xs d g k).2 = L at *
        have hl := Lib.hid hcl
        have hL := Lib.hid hcL
        clear hcl hcL
        generalize rateAt xs d (k : Int) g = ra at *
        cases ht : hasRate xs d (k : Int) g
        · rw [ht] at r3
          have hra : ra = 0 := by simp at r3; omega
          have hs := Lib.hid (S0.out hra)
          have hz : (ra == 0) = true := by simp [hra]
          have hz' : decide (ra = 0) = true := by simp [hra]
          clear hra
          go_wp2_with (go_at_call 58; refine C.out.mono ?_; rintro e wb ⟨rfl, he2⟩)
          go_roundw
          case rel => exact ⟨k + 1, O, oc, by omega, by go_num, by rw [hs.out, hL.out], by rw [hs.out, hl.out], by rw [hs.out, hL.out]; exact he2.own ho, he.trans he2⟩
          case measure => simp [intOf]; omega
        · rw [ht] at r3
          have hra : ¬ ra = 0 := by simp at r3; omega
          have hra0 : 0 < ra := by omega
          have hz : (ra == 0) = false := by simp [hra]
          have hz' : decide (ra = 0) = false := by simp [hra]
          clear r3
          by_cases hem : L = []
          · obtain rfl : l = 0 := i2.1 hem
            subst hem
            have hs := Lib.hid (S1.out hra (.inl rfl))
            clear i2
            go_wp2_with (go_at_call 58; refine C.out.mono ?_; rintro e wb ⟨rfl, he2⟩)
            go_roundw
            case rel => exact ⟨k + 1, some ⟨wb.heap.size, 0, none⟩, 1, by omega, by go_num, by rw [hs.out]; rfl, by rw [hs.out], by rw [hs.out]; exact own_one wb _ _ _ (by have := he.size; have := he2.size; omega), (he.trans he2).alloc _⟩
            case measure => simp [intOf]; omega
          · have hl0 : 0 < l := by
              rcases Int.lt_or_le 0 l with h0 | h0
              · exact h0
              · exact absurd (i2.2 (by omega)) hem
            have hlen : 0 < L.length := List.length_pos_iff.2 hem
            have hd0 : decide (0 < l) = true := by simpa using hl0
            have hd1 : ((L.length : Int) == 0) = false := by simp; exact hem
            have hd2 : decide ((L.length : Int) = 0) = false := by simp; exact hem
            have hd3 : (L.length == 0) = false := by simp; exact hem
            have HEM := Lib.hid hem
            clear i2 hem
            rcases Int.lt_trichotomy ra l with hq | hq | hq
            · have hs := Lib.hid (S1.out hra (.inr hq))
              have hq1 : decide (ra < l) = true := by simpa using hq
              have hq2 : decide (l < ra) = false := by simp; omega
              have hq3 : (ra == l) = false := by simp; omega
              have hq4 : decide (ra = l) = false := by simp; omega
              go_wp2_with (go_at_call 58; refine C.out.mono ?_; rintro e wb ⟨rfl, he2⟩)
              go_roundw
              case rel => exact ⟨k + 1, some ⟨wb.heap.size, 0, none⟩, 1, by omega, by go_num, by rw [hs.out]; rfl, by rw [hs.out], by rw [hs.out]; exact own_one wb _ _ _ (by have := he.size; have := he2.size; omega), (he.trans he2).alloc _⟩
              case measure => simp [intOf]; omega
            · have hs := Lib.hid (S2.out hra (fun h => by rcases h with h | h; exact HEM.out h; omega) hq)
              have hq1 : decide (ra < l) = false := by simp; omega
              have hq2 : decide (l < ra) = false := by simp; omega
              have hq3 : (ra == l) = true := by simpa using hq
              have hq4 : decide (ra = l) = true := by simpa using hq
              clear hq
              go_wp2_with (first
                  | (go_at_call 58; refine C.out.mono ?_; rintro e wb ⟨rfl, he2⟩)
                  | (at_builtin; refine wpList_append_own _ rfl (.tmp 55) (.tmp 57) 38 rfl w.heap.size 3 i0 (.int .i64 0) 1 8 Try.underlying38 HI.out HZ0.out HZ1.out HZ2.out rfl (by decide) (.slice O L.length oc) L.length (ints L) rfl ((he2.own ho).alloc _) ⟨wb.heap.size, 0, none⟩ 1 1 [.int .i64 (k : Int)] rfl rfl ?c1 ?c2 ?c3 ?c4 ?c5 ?_
                     case c1 => exact cell1 _ _ _
                     case c2 => simp [Value.oneCell']
                     case c3 => unfold maxLen; omega
                     case c4 => omega
                     case c5 => have := he.size; have := he2.size; simp at *; omega
                     intro v' w' hown' hgrow _))
              obtain ⟨O', oc', hv⟩ := own_slice hown'
              go_roundw
              case rel => exact ⟨k + 1, O', oc', by omega, by go_num, by rw [hs.out]; simpa using hv, by rw [hs.out], by rw [hs.out]; simp only [ints_snoc, List.length_append, List.length_singleton]; rw [← hv]; exact hown', ((he.trans he2).alloc _).grown hgrow (fun k hk => (ho.lt k hk).1)⟩
              case measure => simp [intOf]; omega
            · have hs := Lib.hid (S3.out hra (fun h => by rcases h with h | h; exact HEM.out h; omega) (by omega))
              have hq1 : decide (ra < l) = false := by simp; omega
              have hq2 : decide (l < ra) = true := by simpa using hq
              have hq3 : (ra == l) = false := by simp; omega
              have hq4 : decide (ra = l) = false := by simp; omega
              go_wp2_with (go_at_call 58; refine C.out.mono ?_; rintro e wb ⟨rfl, he2⟩)
              go_roundw
              case rel => exact ⟨k + 1, O, oc, by omega, by go_num, by rw [hs.out, hL.out], by rw [hs.out, hl.out], by rw [hs.out, hL.out]; exact he2.own ho, he.trans he2⟩
              case measure => simp [intOf]; omega
      · obtain rfl : k = 10 := by omega
        go_wp2
        go_ret2
        exact ⟨O, _, oc, rfl, ho, he⟩

end Go.Proofs.Ytkganlojknhajaa
